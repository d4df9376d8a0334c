/- What the Go functions that the law FnPhasors reaches compute, as plain Lean functions, and that their calls come to just that. Conditions: those that each theorem states. Written by the session's program. -/
import Derived.Test.YthjlapmjpjpgeaaVFnPhasorsB
import Derived.Test.YthjlapmjpjpgeaaVFnPhasorsS
import Derived.Test.YthjlapmjpjpgeaaVFnPhasors1
namespace Go.Proofs.Ythjlapmjpjpgeaa.DX
open Go.RowKit Go.Proofs.YthjlapmjpjpgeaaW.PrintWords Go.Proofs.YthjlapmjpjpgeaaW.PrintLast Go.Proofs.YthjlapmjpjpgeaaW.PrintMore Go.Proofs.Ythjlapmjpjpgeaa.Sq
attribute [local go_sem] run_store_float max2_int min2_int max_two min_two max_three min_three max_four min_four   -- for this text's walks alone
set_option linter.unusedVariables false
set_option linter.unusedSimpArgs false

set_option maxHeartbeats 8000000 in
set_option maxRecDepth 100000 in
theorem laws_FnPhasors.calls (k : Nat) (A0 : Option Addr) (c0 : Nat) (l0 : List Int) (w : World) (hr0 : Kd.C (Kd.int .u8) w A0 l0.length l0) (hc0 : l0.length ≤ c0) (h : laws_FnPhasors.f k l0) :
  Calls Try.prog 11 #[.slice A0 l0.length c0] w fun e w' => e = .returned (.bool true) ∧ Below w.heap.size w w' := by
 have hu28 := Try.underlying28
 have hu30 := Try.underlying30
 have hu56 := Try.underlying56
 have hu3 := Try.underlying3
 have hu26 := Try.underlying26
 have HR0 := Aside0.mk hr0
 have HC0 := Aside0.mk hc0
 clear hr0 hc0
 have HB := Aside0.mk (Below.refl w.heap.size w)
 have H : (∃ t477, laws_big.f l0 = some t477 ∧ (if t477 = true then (True) else (spec_DrawPhTimes.f k l0 (fun bt478 => (impl_PhTimes.f bt478.1 bt478.2.1 bt478.2.2.1 bt478.2.2.2 (fun bt484 => (impl_PhTimes.f bt478.2.2.1 bt478.2.2.2 bt478.1 bt478.2.1 (fun bt486 => (∃ t490, laws_sameBits.f bt484.1 bt486.1 = some t490 ∧ (if t490 = true then (∃ t491, laws_sameBits.f bt484.2 bt486.2 = some t491 ∧ (laws_FnPhasors.j0 k l0 (!t491))) else (laws_FnPhasors.j0 k l0 true))))))))))) := h
 clear h
 obtain ⟨t477, A20, H⟩ := H
 replace H : (if t477 = true then (True) else (spec_DrawPhTimes.f k l0 (fun bt478 => (impl_PhTimes.f bt478.1 bt478.2.1 bt478.2.2.1 bt478.2.2.2 (fun bt484 => (impl_PhTimes.f bt478.2.2.1 bt478.2.2.2 bt478.1 bt478.2.1 (fun bt486 => (∃ t490, laws_sameBits.f bt484.1 bt486.1 = some t490 ∧ (if t490 = true then (∃ t491, laws_sameBits.f bt484.2 bt486.2 = some t491 ∧ (laws_FnPhasors.j0 k l0 (!t491))) else (laws_FnPhasors.j0 k l0 true)))))))))) := H
 have A2 := Aside0.mk A20
 clear A20
 have HC3 := Aside0.mk H
 clear H
 go_enter Try.func11, Try.ntmps11
 go_upto_if 19 with (first | ((with_reducible refine gate_callee (f := 38) rfl ?_); refine goesL_ (some 19) rfl rfl Try.func38 (by kernel_rfl) rfl #[.slice A0 l0.length c0] rfl gl ?_; (with_reducible refine (laws_big.calls _ _ l0 t477 _ ?side1 ?side2 A2.out).mono ?_); (case side1 => exact ck HR0.out); (case side2 => exact HC0.out); rintro e w' ⟨rfl, ⟨nd, rfl⟩⟩; refine ⟨_, rfl, ?_⟩))
 (try simp only [Act.put, List.setIfInBounds_toArray, List.set_cons_zero, List.set_cons_succ])
 have H := HC3.out
 clear HC3
 by_cases c4 : t477 = true
 ·subst c4
  have H1 : (True) := by trivial
  clear H
  have H := H1
  clear H1
  clear H
  go_wp2
  go_ret
  (try rw [HT_.out])
  (try simp only [HT_.out])
  exact ⟨er, bw HB.out⟩
 ·replace c4 := Bool.eq_false_iff.mpr c4
  subst c4
  have H1 : (spec_DrawPhTimes.f k l0 (fun bt478 => (impl_PhTimes.f bt478.1 bt478.2.1 bt478.2.2.1 bt478.2.2.2 (fun bt484 => (impl_PhTimes.f bt478.2.2.1 bt478.2.2.2 bt478.1 bt478.2.1 (fun bt486 => (∃ t490, laws_sameBits.f bt484.1 bt486.1 = some t490 ∧ (if t490 = true then (∃ t491, laws_sameBits.f bt484.2 bt486.2 = some t491 ∧ (laws_FnPhasors.j0 k l0 (!t491))) else (laws_FnPhasors.j0 k l0 true))))))))) := by rw [if_neg (show ¬ (false = true) by decide)] at H; exact H
  clear H
  have H := H1
  clear H1
  have HD6 := Aside0.mk H
  clear H
  try go_wp2_with (first | ((with_reducible refine gate_callee (f := 39) rfl ?_); refine goesL_ (some 22) rfl rfl Try.func39 (by kernel_rfl) rfl #[.slice A0 l0.length c0] rfl gl ?_; (with_reducible refine (spec_DrawPhTimes.calls k _ _ l0 _ _ ?side1 ?side2 HD6.out).mono ?_); (case side1 => exact ck (Kd.C_below HR0.out (bw HB.out))); (case side2 => exact HC0.out); rintro e w7 ⟨t478, t479, t480, t481, hq_, rfl, hb⟩; refine ⟨_, rfl, ?_⟩; have HD5 := Aside0.mk hq_; clear hq_ HD6; have n0_ := Aside0.mk (below_step (bw HB.out) hb); clear HB; have HB := n0_; clear n0_; (try clear hb); (try clear hb2); (try clear hk); (try clear hi)) | ((with_reducible refine gate_dst (N := 3) rfl ?_); (try (refine gate_guard (by rfl) ?_; dsimp only)); refine box_event ?hg (N := 3) ?hd (cs := #[.float .f64 0, .float .f64 0]) (t := 28) ?hr ?_; (case hd => rfl); (case hg => rfl); (case hr => first | (go_simp; done) | (go_simp; rfl)); intro gb482 hg w8 hbox hb; have n0_ := Aside0.mk (below_step (bw HB.out) hb); have n1_ := Aside0.mk (hbox); have n2_ := Aside0.mk ((by rw [hg]; exact (below_size (bw HB.out)) : w.heap.size ≤ gb482)); have n3_ := Aside0.mk ((by rw [hg]; exact (below_size (bw HB.out)) : w.heap.size ≤ gb482)); clear HB; have HB := n0_; have BK482 := n1_; have GW482 := n2_; have GE482 := n3_; clear n0_ n1_ n2_ n3_; clear hb hbox hg) | ((with_reducible refine gate_dst (N := 4) rfl ?_); (try (refine gate_guard (by rfl) ?_; dsimp only)); refine box_event ?hg (N := 4) ?hd (cs := #[.float .f64 0, .float .f64 0]) (t := 28) ?hr ?_; (case hd => rfl); (case hg => rfl); (case hr => first | (go_simp; done) | (go_simp; rfl)); intro gb483 hg w9 hbox hb; have n0_ := Aside0.mk (bB BK482.out hb); have n1_ := Aside0.mk (below_step (bw1 HB.out GE482.out) hb); have n2_ := Aside0.mk (hbox); have n3_ := Aside0.mk ((by rw [hg]; exact (below_size (bw1 HB.out GE482.out)) : w.heap.size ≤ gb483)); have n4_ := Aside0.mk ((by rw [hg]; exact (below_size (bw1 HB.out GE482.out)) : w.heap.size ≤ gb483)); have n5_ := Aside0.mk ((by rw [hg]; exact Nat.ne_of_lt (bL BK482.out) : gb482 ≠ gb483)); have n6_ := Aside0.mk ((by rw [hg]; exact Nat.ne_of_gt (bL BK482.out) : gb483 ≠ gb482)); clear BK482; clear HB; have BK482 := n0_; have HB := n1_; have BK483 := n2_; have GW483 := n3_; have GE483 := n4_; have NB482_483 := n5_; have NB483_482 := n6_; clear n0_ n1_ n2_ n3_ n4_ n5_ n6_; clear hb hbox hg; have hnb10 := NB482_483.out; have hnc10 := NB483_482.out; have hcz11_0 : w9.cell? ⟨gb482, 0, none⟩ = some (.float .f64 0) := (blk_cell BK482.out 0).trans rfl; have hcz11_1 : w9.cell? ⟨gb482, 1, none⟩ = some (.float .f64 0) := (blk_cell BK482.out 1).trans rfl; have hfz11_0 := blk_frozen BK482.out 0; have hfz11_1 := blk_frozen BK482.out 1; have hcz12_0 : w9.cell? ⟨gb483, 0, none⟩ = some (.float .f64 0) := (blk_cell BK483.out 0).trans rfl; have hcz12_1 : w9.cell? ⟨gb483, 1, none⟩ = some (.float .f64 0) := (blk_cell BK483.out 1).trans rfl; have hfz12_0 := blk_frozen BK483.out 0; have hfz12_1 := blk_frozen BK483.out 1))
  have H : (impl_PhTimes.f t478 t479 t480 t481 (fun bt484 => (impl_PhTimes.f t480 t481 t478 t479 (fun bt486 => (∃ t490, laws_sameBits.f bt484.1 bt486.1 = some t490 ∧ (if t490 = true then (∃ t491, laws_sameBits.f bt484.2 bt486.2 = some t491 ∧ (laws_FnPhasors.j0 k l0 (!t491))) else (laws_FnPhasors.j0 k l0 true))))))) := HD5.out
  clear HD5
  have HD14 := Aside0.mk H
  clear H
  try go_wp2
  have n0_ : Aside0 (((((w9.setCell ⟨gb482, 0, none⟩ (.float .f64 t478)).setCell ⟨gb482, 1, none⟩ (.float .f64 t479)).setCell ⟨gb483, 0, none⟩ (.float .f64 t480)).setCell ⟨gb483, 1, none⟩ (.float .f64 t481)).heap[gb482]? = some (.cells #[.float .f64 t478, .float .f64 t479] 28 (0, 0))) := ⟨by (with_reducible repeat (first | refine blk_drewN ?_ _ | refine blk_drew ?_ | refine blk_alloc ?_ _)); refine blk_far ?_ NB482_483.out _; refine blk_far ?_ NB482_483.out _; (with_reducible repeat (first | refine blk_drewN ?_ _ | refine blk_drew ?_ | refine blk_alloc ?_ _)); refine blk_put (cs := #[.float .f64 t478, .float .f64 0]) ?_ 1 _ rfl; refine blk_put (cs := #[.float .f64 0, .float .f64 0]) ?_ 0 _ rfl; (with_reducible repeat (first | refine blk_drewN ?_ _ | refine blk_drew ?_ | refine blk_alloc ?_ _)); exact BK482.out⟩
  have n1_ : Aside0 (((((w9.setCell ⟨gb482, 0, none⟩ (.float .f64 t478)).setCell ⟨gb482, 1, none⟩ (.float .f64 t479)).setCell ⟨gb483, 0, none⟩ (.float .f64 t480)).setCell ⟨gb483, 1, none⟩ (.float .f64 t481)).heap[gb483]? = some (.cells #[.float .f64 t480, .float .f64 t481] 28 (0, 0))) := ⟨by (with_reducible repeat (first | refine blk_drewN ?_ _ | refine blk_drew ?_ | refine blk_alloc ?_ _)); refine blk_put (cs := #[.float .f64 t480, .float .f64 0]) ?_ 1 _ rfl; refine blk_put (cs := #[.float .f64 0, .float .f64 0]) ?_ 0 _ rfl; (with_reducible repeat (first | refine blk_drewN ?_ _ | refine blk_drew ?_ | refine blk_alloc ?_ _)); refine blk_far ?_ NB483_482.out _; refine blk_far ?_ NB483_482.out _; (with_reducible repeat (first | refine blk_drewN ?_ _ | refine blk_drew ?_ | refine blk_alloc ?_ _)); exact BK483.out⟩
  have n2_ : Aside0 (Below w.heap.size w ((((w9.setCell ⟨gb482, 0, none⟩ (.float .f64 t478)).setCell ⟨gb482, 1, none⟩ (.float .f64 t479)).setCell ⟨gb483, 0, none⟩ (.float .f64 t480)).setCell ⟨gb483, 1, none⟩ (.float .f64 t481))) := ⟨bw2 HB.out GE482.out GE483.out⟩
  (try clear BK482)
  (try clear BK483)
  (try clear HB)
  generalize ((((w9.setCell ⟨gb482, 0, none⟩ (.float .f64 t478)).setCell ⟨gb482, 1, none⟩ (.float .f64 t479)).setCell ⟨gb483, 0, none⟩ (.float .f64 t480)).setCell ⟨gb483, 1, none⟩ (.float .f64 t481)) = w17 at n0_ n1_ n2_ ⊢
  have BK482 := n0_
  have BK483 := n1_
  have HB := n2_
  clear n0_ n1_ n2_
  have n0_ := Aside0.mk (blk_drew BK482.out)
  have n1_ := Aside0.mk (blk_drew BK483.out)
  have n2_ := Aside0.mk (below_drew1 HB.out)
  clear BK482
  clear BK483
  clear HB
  have BK482 := n0_
  have BK483 := n1_
  have HB := n2_
  clear n0_ n1_ n2_
  refine start_ (n := 10) (S := fun w' => w'.cell? ⟨gb482, 0, none⟩ = some (.float .f64 t478) ∧ w'.cell? ⟨gb482, 1, none⟩ = some (.float .f64 t479) ∧ w'.cell? ⟨gb483, 0, none⟩ = some (.float .f64 t480) ∧ w'.cell? ⟨gb483, 1, none⟩ = some (.float .f64 t481)) (ds := []) #[false, false, false, false, false, false, false, false, false, false] (by kernel_rfl) rfl rfl ⟨(blk_cell BK482.out 0).trans rfl, (blk_cell BK482.out 1).trans rfl, (blk_cell BK483.out 0).trans rfl, (blk_cell BK483.out 1).trans rfl⟩ (fun hHeld => ?_); refine with_tabW laws_FnPhasors.tab4 laws_FnPhasors.bits4 (fun HT_ HW_ => ?_)
  generalize w17.drew = w18 at BK482 BK483 HB hHeld ⊢
  refine take_ (i := 0) (N := some 25) (v := ?_) (a' := ?_) #[true, false, false, false, false, false, false, false, false, false] rfl rfl (take_ofW HT_.out HW_.out (by kernel_rfl)) (fun _ _ _ h => h) (Or.inl ⟨by rfl, ?_⟩) hHeld ?_ ?_
  rotate_left
  ·rintro w' ⟨s0, s1, s2, s3⟩
   go_simp
   with_reducible rfl
  rotate_left
  ·simp only [Act.put, List.setIfInBounds_toArray, List.set_cons_zero, List.set_cons_succ, i64_w, i32_w]
   rfl
  refine take_ (i := 1) (N := some 26) (v := ?_) (a' := ?_) #[true, true, false, false, false, false, false, false, false, false] rfl rfl (take_ofW HT_.out HW_.out (by kernel_rfl)) (fun _ _ _ h => h) (Or.inl ⟨by rfl, ?_⟩) hHeld ?_ ?_
  rotate_left
  ·rintro w' ⟨s0, s1, s2, s3⟩
   go_simp
   with_reducible rfl
  rotate_left
  ·simp only [Act.put, List.setIfInBounds_toArray, List.set_cons_zero, List.set_cons_succ, i64_w, i32_w]
   rfl
  refine take_ (i := 3) (N := some 28) (v := ?_) (a' := ?_) #[true, true, false, true, false, false, false, false, false, false] rfl rfl (take_ofW HT_.out HW_.out (by kernel_rfl)) (fun _ _ _ h => h) (Or.inl ⟨by rfl, ?_⟩) hHeld ?_ ?_
  rotate_left
  ·rintro w' ⟨s0, s1, s2, s3⟩
   go_simp
   with_reducible rfl
  rotate_left
  ·simp only [Act.put, List.setIfInBounds_toArray, List.set_cons_zero, List.set_cons_succ, i64_w, i32_w]
   rfl
  refine take_ (i := 4) (N := some 29) (v := ?_) (a' := ?_) #[true, true, false, true, true, false, false, false, false, false] rfl rfl (take_ofW HT_.out HW_.out (by kernel_rfl)) (fun _ _ _ h => h) (Or.inl ⟨by rfl, ?_⟩) hHeld ?_ ?_
  rotate_left
  ·rintro w' ⟨s0, s1, s2, s3⟩
   go_simp
   with_reducible rfl
  rotate_left
  ·simp only [Act.put, List.setIfInBounds_toArray, List.set_cons_zero, List.set_cons_succ, i64_w, i32_w]
   rfl
  refine join_ (σ := Nat × Nat × Nat × Nat × Nat × Nat) 2 #[true, true, true, true, true, true, true, true, false, false] (fun s_ => [(27, .agg #[.float .f64 s_.1, .float .f64 s_.2.1]), (30, .agg #[.float .f64 s_.2.2.1, .float .f64 s_.2.2.2.1]), (5, .pointer (some ⟨s_.2.2.2.2.1, 0, none⟩)), (6, .pointer (some ⟨s_.2.2.2.2.2, 0, none⟩))]) (fun s_ w' => (w'.cell? ⟨gb482, 0, none⟩ = some (.float .f64 t478) ∧ w'.cell? ⟨gb482, 1, none⟩ = some (.float .f64 t479) ∧ w'.cell? ⟨gb483, 0, none⟩ = some (.float .f64 t480) ∧ w'.cell? ⟨gb483, 1, none⟩ = some (.float .f64 t481)) ∧ (w'.heap[gb482]? = some (.cells #[.float .f64 t478, .float .f64 t479] 28 (0, 0))) ∧ (w'.heap[gb483]? = some (.cells #[.float .f64 t480, .float .f64 t481] 28 (0, 0))) ∧ (w'.heap[s_.2.2.2.2.1]? = some (.cells #[.float .f64 0, .float .f64 0] 28 (0, 0))) ∧ (w'.heap[s_.2.2.2.2.2]? = some (.cells #[.float .f64 0, .float .f64 0] 28 (0, 0))) ∧ (w.heap.size ≤ s_.2.2.2.2.1) ∧ (w.heap.size ≤ s_.2.2.2.2.1) ∧ (gb482 ≠ s_.2.2.2.2.1) ∧ (s_.2.2.2.2.1 ≠ gb482) ∧ (gb483 ≠ s_.2.2.2.2.1) ∧ (s_.2.2.2.2.1 ≠ gb483) ∧ (s_.2.2.2.2.2 ≠ s_.2.2.2.2.1) ∧ (s_.2.2.2.2.1 ≠ s_.2.2.2.2.2) ∧ (w.heap.size ≤ s_.2.2.2.2.2) ∧ (w.heap.size ≤ s_.2.2.2.2.2) ∧ (gb482 ≠ s_.2.2.2.2.2) ∧ (s_.2.2.2.2.2 ≠ gb482) ∧ (gb483 ≠ s_.2.2.2.2.2) ∧ (s_.2.2.2.2.2 ≠ gb483) ∧ (impl_PhTimes.f t480 t481 t478 t479 (fun bt486 => (∃ t490, laws_sameBits.f s_.1 bt486.1 = some t490 ∧ (if t490 = true then (∃ t491, laws_sameBits.f s_.2.1 bt486.2 = some t491 ∧ (laws_FnPhasors.j0 k l0 (!t491))) else (laws_FnPhasors.j0 k l0 true))))) ∧ (∃ t490, laws_sameBits.f s_.1 s_.2.2.1 = some t490 ∧ (if t490 = true then (∃ t491, laws_sameBits.f s_.2.1 s_.2.2.2.1 = some t491 ∧ (laws_FnPhasors.j0 k l0 (!t491))) else (laws_FnPhasors.j0 k l0 true))) ∧ (Below w.heap.size w w')) ?_ ?_
  rotate_left
  ·intro hJ2_5_6_7
   refine join_ (σ := Nat × Nat × Nat × Nat × Nat) 3 #[true, true, true, true, true, true, true, false, false, false] (fun s_ => [(27, .agg #[.float .f64 s_.1, .float .f64 s_.2.1]), (30, .agg #[.float .f64 s_.2.2.1, .float .f64 s_.2.2.2.1]), (5, .pointer (some ⟨s_.2.2.2.2, 0, none⟩))]) (fun s_ w' => (w'.cell? ⟨gb482, 0, none⟩ = some (.float .f64 t478) ∧ w'.cell? ⟨gb482, 1, none⟩ = some (.float .f64 t479) ∧ w'.cell? ⟨gb483, 0, none⟩ = some (.float .f64 t480) ∧ w'.cell? ⟨gb483, 1, none⟩ = some (.float .f64 t481)) ∧ (w'.heap[gb482]? = some (.cells #[.float .f64 t478, .float .f64 t479] 28 (0, 0))) ∧ (w'.heap[gb483]? = some (.cells #[.float .f64 t480, .float .f64 t481] 28 (0, 0))) ∧ (w'.heap[s_.2.2.2.2]? = some (.cells #[.float .f64 0, .float .f64 0] 28 (0, 0))) ∧ (w.heap.size ≤ s_.2.2.2.2) ∧ (w.heap.size ≤ s_.2.2.2.2) ∧ (gb482 ≠ s_.2.2.2.2) ∧ (s_.2.2.2.2 ≠ gb482) ∧ (gb483 ≠ s_.2.2.2.2) ∧ (s_.2.2.2.2 ≠ gb483) ∧ (impl_PhTimes.f t480 t481 t478 t479 (fun bt486 => (∃ t490, laws_sameBits.f s_.1 bt486.1 = some t490 ∧ (if t490 = true then (∃ t491, laws_sameBits.f s_.2.1 bt486.2 = some t491 ∧ (laws_FnPhasors.j0 k l0 (!t491))) else (laws_FnPhasors.j0 k l0 true))))) ∧ (∃ t490, laws_sameBits.f s_.1 s_.2.2.1 = some t490 ∧ (if t490 = true then (∃ t491, laws_sameBits.f s_.2.1 s_.2.2.2.1 = some t491 ∧ (laws_FnPhasors.j0 k l0 (!t491))) else (laws_FnPhasors.j0 k l0 true))) ∧ (Below w.heap.size w w')) ?_ ?_
   rotate_left
   ·intro hJ2_5_6
    refine join_ (σ := Nat × Nat × Nat × Nat × Nat) 3 #[true, true, true, true, true, true, false, true, false, false] (fun s_ => [(27, .agg #[.float .f64 s_.1, .float .f64 s_.2.1]), (30, .agg #[.float .f64 s_.2.2.1, .float .f64 s_.2.2.2.1]), (6, .pointer (some ⟨s_.2.2.2.2, 0, none⟩))]) (fun s_ w' => (w'.cell? ⟨gb482, 0, none⟩ = some (.float .f64 t478) ∧ w'.cell? ⟨gb482, 1, none⟩ = some (.float .f64 t479) ∧ w'.cell? ⟨gb483, 0, none⟩ = some (.float .f64 t480) ∧ w'.cell? ⟨gb483, 1, none⟩ = some (.float .f64 t481)) ∧ (w'.heap[gb482]? = some (.cells #[.float .f64 t478, .float .f64 t479] 28 (0, 0))) ∧ (w'.heap[gb483]? = some (.cells #[.float .f64 t480, .float .f64 t481] 28 (0, 0))) ∧ (w'.heap[s_.2.2.2.2]? = some (.cells #[.float .f64 0, .float .f64 0] 28 (0, 0))) ∧ (w.heap.size ≤ s_.2.2.2.2) ∧ (w.heap.size ≤ s_.2.2.2.2) ∧ (gb482 ≠ s_.2.2.2.2) ∧ (s_.2.2.2.2 ≠ gb482) ∧ (gb483 ≠ s_.2.2.2.2) ∧ (s_.2.2.2.2 ≠ gb483) ∧ (impl_PhTimes.f t480 t481 t478 t479 (fun bt486 => (∃ t490, laws_sameBits.f s_.1 bt486.1 = some t490 ∧ (if t490 = true then (∃ t491, laws_sameBits.f s_.2.1 bt486.2 = some t491 ∧ (laws_FnPhasors.j0 k l0 (!t491))) else (laws_FnPhasors.j0 k l0 true))))) ∧ (∃ t490, laws_sameBits.f s_.1 s_.2.2.1 = some t490 ∧ (if t490 = true then (∃ t491, laws_sameBits.f s_.2.1 s_.2.2.2.1 = some t491 ∧ (laws_FnPhasors.j0 k l0 (!t491))) else (laws_FnPhasors.j0 k l0 true))) ∧ (Below w.heap.size w w')) ?_ ?_
    rotate_left
    ·intro hJ2_5_7
     refine join_ (σ := Nat × Nat × Nat × Nat) 3 #[true, true, true, true, true, false, true, true, false, false] (fun s_ => [(27, .agg #[.float .f64 s_.1, .float .f64 s_.2.1]), (5, .pointer (some ⟨s_.2.2.1, 0, none⟩)), (6, .pointer (some ⟨s_.2.2.2, 0, none⟩))]) (fun s_ w' => (w'.cell? ⟨gb482, 0, none⟩ = some (.float .f64 t478) ∧ w'.cell? ⟨gb482, 1, none⟩ = some (.float .f64 t479) ∧ w'.cell? ⟨gb483, 0, none⟩ = some (.float .f64 t480) ∧ w'.cell? ⟨gb483, 1, none⟩ = some (.float .f64 t481)) ∧ (w'.heap[gb482]? = some (.cells #[.float .f64 t478, .float .f64 t479] 28 (0, 0))) ∧ (w'.heap[gb483]? = some (.cells #[.float .f64 t480, .float .f64 t481] 28 (0, 0))) ∧ (w'.heap[s_.2.2.1]? = some (.cells #[.float .f64 0, .float .f64 0] 28 (0, 0))) ∧ (w'.heap[s_.2.2.2]? = some (.cells #[.float .f64 0, .float .f64 0] 28 (0, 0))) ∧ (w.heap.size ≤ s_.2.2.1) ∧ (w.heap.size ≤ s_.2.2.1) ∧ (gb482 ≠ s_.2.2.1) ∧ (s_.2.2.1 ≠ gb482) ∧ (gb483 ≠ s_.2.2.1) ∧ (s_.2.2.1 ≠ gb483) ∧ (s_.2.2.2 ≠ s_.2.2.1) ∧ (s_.2.2.1 ≠ s_.2.2.2) ∧ (w.heap.size ≤ s_.2.2.2) ∧ (w.heap.size ≤ s_.2.2.2) ∧ (gb482 ≠ s_.2.2.2) ∧ (s_.2.2.2 ≠ gb482) ∧ (gb483 ≠ s_.2.2.2) ∧ (s_.2.2.2 ≠ gb483) ∧ (impl_PhTimes.f t480 t481 t478 t479 (fun bt486 => (∃ t490, laws_sameBits.f s_.1 bt486.1 = some t490 ∧ (if t490 = true then (∃ t491, laws_sameBits.f s_.2.1 bt486.2 = some t491 ∧ (laws_FnPhasors.j0 k l0 (!t491))) else (laws_FnPhasors.j0 k l0 true))))) ∧ (Below w.heap.size w w')) ?_ ?_
     rotate_left
     ·intro hJ2_6_7
      refine join_ (σ := Nat × Nat × Nat × Nat) 4 #[true, true, true, true, true, true, false, false, false, false] (fun s_ => [(27, .agg #[.float .f64 s_.1, .float .f64 s_.2.1]), (30, .agg #[.float .f64 s_.2.2.1, .float .f64 s_.2.2.2])]) (fun s_ w' => (w'.cell? ⟨gb482, 0, none⟩ = some (.float .f64 t478) ∧ w'.cell? ⟨gb482, 1, none⟩ = some (.float .f64 t479) ∧ w'.cell? ⟨gb483, 0, none⟩ = some (.float .f64 t480) ∧ w'.cell? ⟨gb483, 1, none⟩ = some (.float .f64 t481)) ∧ (w'.heap[gb482]? = some (.cells #[.float .f64 t478, .float .f64 t479] 28 (0, 0))) ∧ (w'.heap[gb483]? = some (.cells #[.float .f64 t480, .float .f64 t481] 28 (0, 0))) ∧ (impl_PhTimes.f t480 t481 t478 t479 (fun bt486 => (∃ t490, laws_sameBits.f s_.1 bt486.1 = some t490 ∧ (if t490 = true then (∃ t491, laws_sameBits.f s_.2.1 bt486.2 = some t491 ∧ (laws_FnPhasors.j0 k l0 (!t491))) else (laws_FnPhasors.j0 k l0 true))))) ∧ (∃ t490, laws_sameBits.f s_.1 s_.2.2.1 = some t490 ∧ (if t490 = true then (∃ t491, laws_sameBits.f s_.2.1 s_.2.2.2 = some t491 ∧ (laws_FnPhasors.j0 k l0 (!t491))) else (laws_FnPhasors.j0 k l0 true))) ∧ (Below w.heap.size w w')) ?_ ?_
      rotate_left
      ·intro hJ2_5
       refine join_ (σ := Nat × Nat × Nat) 4 #[true, true, true, true, true, false, true, false, false, false] (fun s_ => [(27, .agg #[.float .f64 s_.1, .float .f64 s_.2.1]), (5, .pointer (some ⟨s_.2.2, 0, none⟩))]) (fun s_ w' => (w'.cell? ⟨gb482, 0, none⟩ = some (.float .f64 t478) ∧ w'.cell? ⟨gb482, 1, none⟩ = some (.float .f64 t479) ∧ w'.cell? ⟨gb483, 0, none⟩ = some (.float .f64 t480) ∧ w'.cell? ⟨gb483, 1, none⟩ = some (.float .f64 t481)) ∧ (w'.heap[gb482]? = some (.cells #[.float .f64 t478, .float .f64 t479] 28 (0, 0))) ∧ (w'.heap[gb483]? = some (.cells #[.float .f64 t480, .float .f64 t481] 28 (0, 0))) ∧ (w'.heap[s_.2.2]? = some (.cells #[.float .f64 0, .float .f64 0] 28 (0, 0))) ∧ (w.heap.size ≤ s_.2.2) ∧ (w.heap.size ≤ s_.2.2) ∧ (gb482 ≠ s_.2.2) ∧ (s_.2.2 ≠ gb482) ∧ (gb483 ≠ s_.2.2) ∧ (s_.2.2 ≠ gb483) ∧ (impl_PhTimes.f t480 t481 t478 t479 (fun bt486 => (∃ t490, laws_sameBits.f s_.1 bt486.1 = some t490 ∧ (if t490 = true then (∃ t491, laws_sameBits.f s_.2.1 bt486.2 = some t491 ∧ (laws_FnPhasors.j0 k l0 (!t491))) else (laws_FnPhasors.j0 k l0 true))))) ∧ (Below w.heap.size w w')) ?_ ?_
       rotate_left
       ·intro hJ2_6
        refine join_ (σ := Nat × Nat × Nat) 4 #[true, true, true, true, true, false, false, true, false, false] (fun s_ => [(27, .agg #[.float .f64 s_.1, .float .f64 s_.2.1]), (6, .pointer (some ⟨s_.2.2, 0, none⟩))]) (fun s_ w' => (w'.cell? ⟨gb482, 0, none⟩ = some (.float .f64 t478) ∧ w'.cell? ⟨gb482, 1, none⟩ = some (.float .f64 t479) ∧ w'.cell? ⟨gb483, 0, none⟩ = some (.float .f64 t480) ∧ w'.cell? ⟨gb483, 1, none⟩ = some (.float .f64 t481)) ∧ (w'.heap[gb482]? = some (.cells #[.float .f64 t478, .float .f64 t479] 28 (0, 0))) ∧ (w'.heap[gb483]? = some (.cells #[.float .f64 t480, .float .f64 t481] 28 (0, 0))) ∧ (w'.heap[s_.2.2]? = some (.cells #[.float .f64 0, .float .f64 0] 28 (0, 0))) ∧ (w.heap.size ≤ s_.2.2) ∧ (w.heap.size ≤ s_.2.2) ∧ (gb482 ≠ s_.2.2) ∧ (s_.2.2 ≠ gb482) ∧ (gb483 ≠ s_.2.2) ∧ (s_.2.2 ≠ gb483) ∧ (impl_PhTimes.f t480 t481 t478 t479 (fun bt486 => (∃ t490, laws_sameBits.f s_.1 bt486.1 = some t490 ∧ (if t490 = true then (∃ t491, laws_sameBits.f s_.2.1 bt486.2 = some t491 ∧ (laws_FnPhasors.j0 k l0 (!t491))) else (laws_FnPhasors.j0 k l0 true))))) ∧ (Below w.heap.size w w')) ?_ ?_
        rotate_left
        ·intro hJ2_7
         refine join_ (σ := Nat × Nat) 4 #[true, true, false, true, true, false, true, true, false, false] (fun s_ => [(5, .pointer (some ⟨s_.1, 0, none⟩)), (6, .pointer (some ⟨s_.2, 0, none⟩))]) (fun s_ w' => (w'.cell? ⟨gb482, 0, none⟩ = some (.float .f64 t478) ∧ w'.cell? ⟨gb482, 1, none⟩ = some (.float .f64 t479) ∧ w'.cell? ⟨gb483, 0, none⟩ = some (.float .f64 t480) ∧ w'.cell? ⟨gb483, 1, none⟩ = some (.float .f64 t481)) ∧ (w'.heap[gb482]? = some (.cells #[.float .f64 t478, .float .f64 t479] 28 (0, 0))) ∧ (w'.heap[gb483]? = some (.cells #[.float .f64 t480, .float .f64 t481] 28 (0, 0))) ∧ (w'.heap[s_.1]? = some (.cells #[.float .f64 0, .float .f64 0] 28 (0, 0))) ∧ (w'.heap[s_.2]? = some (.cells #[.float .f64 0, .float .f64 0] 28 (0, 0))) ∧ (w.heap.size ≤ s_.1) ∧ (w.heap.size ≤ s_.1) ∧ (gb482 ≠ s_.1) ∧ (s_.1 ≠ gb482) ∧ (gb483 ≠ s_.1) ∧ (s_.1 ≠ gb483) ∧ (s_.2 ≠ s_.1) ∧ (s_.1 ≠ s_.2) ∧ (w.heap.size ≤ s_.2) ∧ (w.heap.size ≤ s_.2) ∧ (gb482 ≠ s_.2) ∧ (s_.2 ≠ gb482) ∧ (gb483 ≠ s_.2) ∧ (s_.2 ≠ gb483) ∧ (Below w.heap.size w w')) ?_ ?_
         rotate_left
         ·intro hJ6_7
          refine join_ (σ := Nat × Nat) 5 #[true, true, true, true, true, false, false, false, false, false] (fun s_ => [(27, .agg #[.float .f64 s_.1, .float .f64 s_.2])]) (fun s_ w' => (w'.cell? ⟨gb482, 0, none⟩ = some (.float .f64 t478) ∧ w'.cell? ⟨gb482, 1, none⟩ = some (.float .f64 t479) ∧ w'.cell? ⟨gb483, 0, none⟩ = some (.float .f64 t480) ∧ w'.cell? ⟨gb483, 1, none⟩ = some (.float .f64 t481)) ∧ (w'.heap[gb482]? = some (.cells #[.float .f64 t478, .float .f64 t479] 28 (0, 0))) ∧ (w'.heap[gb483]? = some (.cells #[.float .f64 t480, .float .f64 t481] 28 (0, 0))) ∧ (impl_PhTimes.f t480 t481 t478 t479 (fun bt486 => (∃ t490, laws_sameBits.f s_.1 bt486.1 = some t490 ∧ (if t490 = true then (∃ t491, laws_sameBits.f s_.2 bt486.2 = some t491 ∧ (laws_FnPhasors.j0 k l0 (!t491))) else (laws_FnPhasors.j0 k l0 true))))) ∧ (Below w.heap.size w w')) ?_ ?_
          rotate_left
          ·intro hJ2
           refine join_ (σ := Nat) 5 #[true, true, false, true, true, false, true, false, false, false] (fun s_ => [(5, .pointer (some ⟨s_, 0, none⟩))]) (fun s_ w' => (w'.cell? ⟨gb482, 0, none⟩ = some (.float .f64 t478) ∧ w'.cell? ⟨gb482, 1, none⟩ = some (.float .f64 t479) ∧ w'.cell? ⟨gb483, 0, none⟩ = some (.float .f64 t480) ∧ w'.cell? ⟨gb483, 1, none⟩ = some (.float .f64 t481)) ∧ (w'.heap[gb482]? = some (.cells #[.float .f64 t478, .float .f64 t479] 28 (0, 0))) ∧ (w'.heap[gb483]? = some (.cells #[.float .f64 t480, .float .f64 t481] 28 (0, 0))) ∧ (w'.heap[s_]? = some (.cells #[.float .f64 0, .float .f64 0] 28 (0, 0))) ∧ (w.heap.size ≤ s_) ∧ (w.heap.size ≤ s_) ∧ (gb482 ≠ s_) ∧ (s_ ≠ gb482) ∧ (gb483 ≠ s_) ∧ (s_ ≠ gb483) ∧ (Below w.heap.size w w')) ?_ ?_
           rotate_left
           ·intro hJ6
            refine join_ (σ := Nat) 5 #[true, true, false, true, true, false, false, true, false, false] (fun s_ => [(6, .pointer (some ⟨s_, 0, none⟩))]) (fun s_ w' => (w'.cell? ⟨gb482, 0, none⟩ = some (.float .f64 t478) ∧ w'.cell? ⟨gb482, 1, none⟩ = some (.float .f64 t479) ∧ w'.cell? ⟨gb483, 0, none⟩ = some (.float .f64 t480) ∧ w'.cell? ⟨gb483, 1, none⟩ = some (.float .f64 t481)) ∧ (w'.heap[gb482]? = some (.cells #[.float .f64 t478, .float .f64 t479] 28 (0, 0))) ∧ (w'.heap[gb483]? = some (.cells #[.float .f64 t480, .float .f64 t481] 28 (0, 0))) ∧ (w'.heap[s_]? = some (.cells #[.float .f64 0, .float .f64 0] 28 (0, 0))) ∧ (w.heap.size ≤ s_) ∧ (w.heap.size ≤ s_) ∧ (gb482 ≠ s_) ∧ (s_ ≠ gb482) ∧ (gb483 ≠ s_) ∧ (s_ ≠ gb483) ∧ (Below w.heap.size w w')) ?_ ?_
            rotate_left
            ·intro hJ7
             refine three_ (i := 2) (j := 6) (k := 7) (Ni := some 27) (Nj := some 5) (Nk := some 6) #[true, true, true, true, true, false, false, false, false, false] #[true, true, false, true, true, false, true, false, false, false] #[true, true, false, true, true, false, false, true, false, false] rfl rfl rfl rfl rfl rfl (three_of HT_.out (by kernel_rfl)) (by decide) (by decide) (by decide) (fun K hK => ?_) (fun K hK => ?_) (fun K hK => ?_)
             ·skip
              refine goes_ Try.func23 (by kernel_rfl) rfl #[.agg #[.float .f64 t478, .float .f64 t479], .agg #[.float .f64 t480, .float .f64 t481]] (by rfl) rfl rfl gl ?_
              with_reducible refine (impl_PhTimes.calls t478 t479 t480 t481 _ _ HD14.out).mono ?_
              rintro e w19 ⟨t484, t485, hq_, rfl, hb⟩
              refine ⟨_, rfl, ?_⟩
              have HD13 := Aside0.mk hq_
              clear hq_ HD14
              have n0_ := Aside0.mk (bB BK482.out hb)
              have n1_ := Aside0.mk (bB BK483.out hb)
              have n2_ := Aside0.mk (below_step (bw2 HB.out GE482.out GE483.out) hb)
              clear BK482
              clear BK483
              clear HB
              have BK482 := n0_
              have BK483 := n1_
              have HB := n2_
              clear n0_ n1_ n2_
              (try clear hb)
              (try clear hb2)
              (try clear hk)
              (try clear hi)
              refine hK.out _ _ ⟨(blk_cell BK482.out 0).trans rfl, (blk_cell BK482.out 1).trans rfl, (blk_cell BK483.out 0).trans rfl, (blk_cell BK483.out 1).trans rfl⟩ (fun hHeld => ?_)
              clear hK K
              refine norm_ (a' := ?_) ?_ ?_
              rotate_left
              ·show Act.put _ (some 27) _ = _
               simp only [Act.put, List.setIfInBounds_toArray, List.set_cons_zero, List.set_cons_succ, i64_w, i32_w]
               rfl
              exact norm_ (by first | (simp only [putAll, Act.put, List.setIfInBounds_toArray, List.set_cons_zero, List.set_cons_succ]; done) | (simp only [putAll, Act.put, List.setIfInBounds_toArray, List.set_cons_zero, List.set_cons_succ]; rfl)) (hJ2 (t484, t485) _ ⟨hHeld, (bk BK482.out), (bk BK483.out), HD13.out, (bw2 HB.out GE482.out GE483.out)⟩)
             ·skip
              refine box_step ?hg (N := 5) ?hd (cs := #[.float .f64 0, .float .f64 0]) (t := 28) ?hr ?_; (case hd => rfl); (case hg => rfl); (case hr => first | (go_simp; done) | (go_simp; rfl))
              intro gb488 hg w19 hbox hb
              have n0_ := Aside0.mk (bB BK482.out hb)
              have n1_ := Aside0.mk (bB BK483.out hb)
              have n2_ := Aside0.mk (below_step (bw2 HB.out GE482.out GE483.out) hb)
              have n3_ := Aside0.mk (hbox)
              have n4_ := Aside0.mk ((by rw [hg]; exact (below_size (bw2 HB.out GE482.out GE483.out)) : w.heap.size ≤ gb488))
              have n5_ := Aside0.mk ((by rw [hg]; exact (below_size (bw2 HB.out GE482.out GE483.out)) : w.heap.size ≤ gb488))
              have n6_ := Aside0.mk ((by rw [hg]; exact Nat.ne_of_lt (bL BK482.out) : gb482 ≠ gb488))
              have n7_ := Aside0.mk ((by rw [hg]; exact Nat.ne_of_gt (bL BK482.out) : gb488 ≠ gb482))
              have n8_ := Aside0.mk ((by rw [hg]; exact Nat.ne_of_lt (bL BK483.out) : gb483 ≠ gb488))
              have n9_ := Aside0.mk ((by rw [hg]; exact Nat.ne_of_gt (bL BK483.out) : gb488 ≠ gb483))
              clear BK482
              clear BK483
              clear HB
              have BK482 := n0_
              have BK483 := n1_
              have HB := n2_
              have BK488 := n3_
              have GW488 := n4_
              have GE488 := n5_
              have NB482_488 := n6_
              have NB488_482 := n7_
              have NB483_488 := n8_
              have NB488_483 := n9_
              clear n0_ n1_ n2_ n3_ n4_ n5_ n6_ n7_ n8_ n9_
              clear hb hbox hg
              refine hK.out _ _ ⟨(blk_cell BK482.out 0).trans rfl, (blk_cell BK482.out 1).trans rfl, (blk_cell BK483.out 0).trans rfl, (blk_cell BK483.out 1).trans rfl⟩ (fun hHeld => ?_)
              clear hK K
              refine norm_ (a' := ?_) ?_ ?_
              rotate_left
              ·show Act.put _ (some 5) _ = _
               simp only [Act.put, List.setIfInBounds_toArray, List.set_cons_zero, List.set_cons_succ, i64_w, i32_w]
               rfl
              exact norm_ (by first | (simp only [putAll, Act.put, List.setIfInBounds_toArray, List.set_cons_zero, List.set_cons_succ]; done) | (simp only [putAll, Act.put, List.setIfInBounds_toArray, List.set_cons_zero, List.set_cons_succ]; rfl)) (hJ6 (gb488) _ ⟨hHeld, (bk BK482.out), (bk BK483.out), (bk BK488.out), GW488.out, GE488.out, NB482_488.out, NB488_482.out, NB483_488.out, NB488_483.out, (bw3 HB.out GE482.out GE483.out GE488.out)⟩)
             ·skip
              refine box_step ?hg (N := 6) ?hd (cs := #[.float .f64 0, .float .f64 0]) (t := 28) ?hr ?_; (case hd => rfl); (case hg => rfl); (case hr => first | (go_simp; done) | (go_simp; rfl))
              intro gb489 hg w19 hbox hb
              have n0_ := Aside0.mk (bB BK482.out hb)
              have n1_ := Aside0.mk (bB BK483.out hb)
              have n2_ := Aside0.mk (below_step (bw2 HB.out GE482.out GE483.out) hb)
              have n3_ := Aside0.mk (hbox)
              have n4_ := Aside0.mk ((by rw [hg]; exact (below_size (bw2 HB.out GE482.out GE483.out)) : w.heap.size ≤ gb489))
              have n5_ := Aside0.mk ((by rw [hg]; exact (below_size (bw2 HB.out GE482.out GE483.out)) : w.heap.size ≤ gb489))
              have n6_ := Aside0.mk ((by rw [hg]; exact Nat.ne_of_lt (bL BK482.out) : gb482 ≠ gb489))
              have n7_ := Aside0.mk ((by rw [hg]; exact Nat.ne_of_gt (bL BK482.out) : gb489 ≠ gb482))
              have n8_ := Aside0.mk ((by rw [hg]; exact Nat.ne_of_lt (bL BK483.out) : gb483 ≠ gb489))
              have n9_ := Aside0.mk ((by rw [hg]; exact Nat.ne_of_gt (bL BK483.out) : gb489 ≠ gb483))
              clear BK482
              clear BK483
              clear HB
              have BK482 := n0_
              have BK483 := n1_
              have HB := n2_
              have BK489 := n3_
              have GW489 := n4_
              have GE489 := n5_
              have NB482_489 := n6_
              have NB489_482 := n7_
              have NB483_489 := n8_
              have NB489_483 := n9_
              clear n0_ n1_ n2_ n3_ n4_ n5_ n6_ n7_ n8_ n9_
              clear hb hbox hg
              refine hK.out _ _ ⟨(blk_cell BK482.out 0).trans rfl, (blk_cell BK482.out 1).trans rfl, (blk_cell BK483.out 0).trans rfl, (blk_cell BK483.out 1).trans rfl⟩ (fun hHeld => ?_)
              clear hK K
              refine norm_ (a' := ?_) ?_ ?_
              rotate_left
              ·show Act.put _ (some 6) _ = _
               simp only [Act.put, List.setIfInBounds_toArray, List.set_cons_zero, List.set_cons_succ, i64_w, i32_w]
               rfl
              exact norm_ (by first | (simp only [putAll, Act.put, List.setIfInBounds_toArray, List.set_cons_zero, List.set_cons_succ]; done) | (simp only [putAll, Act.put, List.setIfInBounds_toArray, List.set_cons_zero, List.set_cons_succ]; rfl)) (hJ7 (gb489) _ ⟨hHeld, (bk BK482.out), (bk BK483.out), (bk BK489.out), GW489.out, GE489.out, NB482_489.out, NB489_482.out, NB483_489.out, NB489_483.out, (bw3 HB.out GE482.out GE483.out GE489.out)⟩)
            ·skip
             rintro gb489 w20 ⟨hS_, h0_, h1_, h2_, h3_, h4_, h5_, h6_, h7_, h8_, h9_⟩
             have n0_ : Aside0 (w20.heap[gb482]? = some (.cells #[.float .f64 t478, .float .f64 t479] 28 (0, 0))) := ⟨h0_⟩
             have n1_ : Aside0 (w20.heap[gb483]? = some (.cells #[.float .f64 t480, .float .f64 t481] 28 (0, 0))) := ⟨h1_⟩
             have n2_ : Aside0 (w20.heap[gb489]? = some (.cells #[.float .f64 0, .float .f64 0] 28 (0, 0))) := ⟨h2_⟩
             have n3_ : Aside0 (w.heap.size ≤ gb489) := ⟨h3_⟩
             have n4_ : Aside0 (w.heap.size ≤ gb489) := ⟨h4_⟩
             have n5_ : Aside0 (gb482 ≠ gb489) := ⟨h5_⟩
             have n6_ : Aside0 (gb489 ≠ gb482) := ⟨h6_⟩
             have n7_ : Aside0 (gb483 ≠ gb489) := ⟨h7_⟩
             have n8_ : Aside0 (gb489 ≠ gb483) := ⟨h8_⟩
             have n9_ : Aside0 (Below w.heap.size w w20) := ⟨h9_⟩
             clear BK482
             clear BK483
             clear HB
             clear h0_ h1_ h2_ h3_ h4_ h5_ h6_ h7_ h8_ h9_
             have BK482 := n0_
             have BK483 := n1_
             have BK489 := n2_
             have GW489 := n3_
             have GE489 := n4_
             have NB482_489 := n5_
             have NB489_482 := n6_
             have NB483_489 := n7_
             have NB489_483 := n8_
             have HB := n9_
             clear n0_ n1_ n2_ n3_ n4_ n5_ n6_ n7_ n8_ n9_
             have hHeld : w20.cell? ⟨gb482, 0, none⟩ = some (.float .f64 t478) ∧ w20.cell? ⟨gb482, 1, none⟩ = some (.float .f64 t479) ∧ w20.cell? ⟨gb483, 0, none⟩ = some (.float .f64 t480) ∧ w20.cell? ⟨gb483, 1, none⟩ = some (.float .f64 t481) := hS_
             refine norm_ (a' := ?_) ?_ ?_
             rotate_left
             ·simp only [putAll, Act.put, List.setIfInBounds_toArray, List.set_cons_zero, List.set_cons_succ]
              rfl
             refine two_ (i := 2) (j := 6) (Ni := some 27) (Nj := some 5) #[true, true, true, true, true, false, false, true, false, false] #[true, true, false, true, true, false, true, true, false, false] rfl rfl rfl rfl (two_of HT_.out (by kernel_rfl)) (by decide) (by decide) (fun K hK => ?_) (fun K hK => ?_)
             ·skip
              refine goes_ Try.func23 (by kernel_rfl) rfl #[.agg #[.float .f64 t478, .float .f64 t479], .agg #[.float .f64 t480, .float .f64 t481]] (by rfl) rfl rfl gl ?_
              with_reducible refine (impl_PhTimes.calls t478 t479 t480 t481 _ _ HD14.out).mono ?_
              rintro e w21 ⟨t484, t485, hq_, rfl, hb⟩
              refine ⟨_, rfl, ?_⟩
              have HD13 := Aside0.mk hq_
              clear hq_ HD14
              have n0_ := Aside0.mk (bB BK482.out hb)
              have n1_ := Aside0.mk (bB BK483.out hb)
              have n2_ := Aside0.mk (bB BK489.out hb)
              have n3_ := Aside0.mk (below_step (bw3 HB.out GE482.out GE483.out GE489.out) hb)
              clear BK482
              clear BK483
              clear BK489
              clear HB
              have BK482 := n0_
              have BK483 := n1_
              have BK489 := n2_
              have HB := n3_
              clear n0_ n1_ n2_ n3_
              (try clear hb)
              (try clear hb2)
              (try clear hk)
              (try clear hi)
              refine hK.out _ _ ⟨(blk_cell BK482.out 0).trans rfl, (blk_cell BK482.out 1).trans rfl, (blk_cell BK483.out 0).trans rfl, (blk_cell BK483.out 1).trans rfl⟩ (fun hHeld => ?_)
              clear hK K
              refine norm_ (a' := ?_) ?_ ?_
              rotate_left
              ·show Act.put _ (some 27) _ = _
               simp only [Act.put, List.setIfInBounds_toArray, List.set_cons_zero, List.set_cons_succ, i64_w, i32_w]
               rfl
              exact norm_ (by first | (simp only [putAll, Act.put, List.setIfInBounds_toArray, List.set_cons_zero, List.set_cons_succ]; done) | (simp only [putAll, Act.put, List.setIfInBounds_toArray, List.set_cons_zero, List.set_cons_succ]; rfl)) (hJ2_7 (t484, t485, gb489) _ ⟨hHeld, (bk BK482.out), (bk BK483.out), (bk BK489.out), GW489.out, GE489.out, NB482_489.out, NB489_482.out, NB483_489.out, NB489_483.out, HD13.out, (bw3 HB.out GE482.out GE483.out GE489.out)⟩)
             ·skip
              refine box_step ?hg (N := 5) ?hd (cs := #[.float .f64 0, .float .f64 0]) (t := 28) ?hr ?_; (case hd => rfl); (case hg => rfl); (case hr => first | (go_simp; done) | (go_simp; rfl))
              intro gb488 hg w21 hbox hb
              have n0_ := Aside0.mk (bB BK482.out hb)
              have n1_ := Aside0.mk (bB BK483.out hb)
              have n2_ := Aside0.mk (bB BK489.out hb)
              have n3_ := Aside0.mk (below_step (bw3 HB.out GE482.out GE483.out GE489.out) hb)
              have n4_ := Aside0.mk (hbox)
              have n5_ := Aside0.mk ((by rw [hg]; exact (below_size (bw3 HB.out GE482.out GE483.out GE489.out)) : w.heap.size ≤ gb488))
              have n6_ := Aside0.mk ((by rw [hg]; exact (below_size (bw3 HB.out GE482.out GE483.out GE489.out)) : w.heap.size ≤ gb488))
              have n7_ := Aside0.mk ((by rw [hg]; exact Nat.ne_of_lt (bL BK482.out) : gb482 ≠ gb488))
              have n8_ := Aside0.mk ((by rw [hg]; exact Nat.ne_of_gt (bL BK482.out) : gb488 ≠ gb482))
              have n9_ := Aside0.mk ((by rw [hg]; exact Nat.ne_of_lt (bL BK483.out) : gb483 ≠ gb488))
              have n10_ := Aside0.mk ((by rw [hg]; exact Nat.ne_of_gt (bL BK483.out) : gb488 ≠ gb483))
              have n11_ := Aside0.mk ((by rw [hg]; exact Nat.ne_of_lt (bL BK489.out) : gb489 ≠ gb488))
              have n12_ := Aside0.mk ((by rw [hg]; exact Nat.ne_of_gt (bL BK489.out) : gb488 ≠ gb489))
              clear BK482
              clear BK483
              clear BK489
              clear HB
              have BK482 := n0_
              have BK483 := n1_
              have BK489 := n2_
              have HB := n3_
              have BK488 := n4_
              have GW488 := n5_
              have GE488 := n6_
              have NB482_488 := n7_
              have NB488_482 := n8_
              have NB483_488 := n9_
              have NB488_483 := n10_
              have NB489_488 := n11_
              have NB488_489 := n12_
              clear n0_ n1_ n2_ n3_ n4_ n5_ n6_ n7_ n8_ n9_ n10_ n11_ n12_
              clear hb hbox hg
              refine hK.out _ _ ⟨(blk_cell BK482.out 0).trans rfl, (blk_cell BK482.out 1).trans rfl, (blk_cell BK483.out 0).trans rfl, (blk_cell BK483.out 1).trans rfl⟩ (fun hHeld => ?_)
              clear hK K
              refine norm_ (a' := ?_) ?_ ?_
              rotate_left
              ·show Act.put _ (some 5) _ = _
               simp only [Act.put, List.setIfInBounds_toArray, List.set_cons_zero, List.set_cons_succ, i64_w, i32_w]
               rfl
              exact norm_ (by first | (simp only [putAll, Act.put, List.setIfInBounds_toArray, List.set_cons_zero, List.set_cons_succ]; done) | (simp only [putAll, Act.put, List.setIfInBounds_toArray, List.set_cons_zero, List.set_cons_succ]; rfl)) (hJ6_7 (gb488, gb489) _ ⟨hHeld, (bk BK482.out), (bk BK483.out), (bk BK488.out), (bk BK489.out), GW488.out, GE488.out, NB482_488.out, NB488_482.out, NB483_488.out, NB488_483.out, NB489_488.out, NB488_489.out, GW489.out, GE489.out, NB482_489.out, NB489_482.out, NB483_489.out, NB489_483.out, (bw4 HB.out GE482.out GE483.out GE489.out GE488.out)⟩)
           ·skip
            rintro gb488 w20 ⟨hS_, h0_, h1_, h2_, h3_, h4_, h5_, h6_, h7_, h8_, h9_⟩
            have n0_ : Aside0 (w20.heap[gb482]? = some (.cells #[.float .f64 t478, .float .f64 t479] 28 (0, 0))) := ⟨h0_⟩
            have n1_ : Aside0 (w20.heap[gb483]? = some (.cells #[.float .f64 t480, .float .f64 t481] 28 (0, 0))) := ⟨h1_⟩
            have n2_ : Aside0 (w20.heap[gb488]? = some (.cells #[.float .f64 0, .float .f64 0] 28 (0, 0))) := ⟨h2_⟩
            have n3_ : Aside0 (w.heap.size ≤ gb488) := ⟨h3_⟩
            have n4_ : Aside0 (w.heap.size ≤ gb488) := ⟨h4_⟩
            have n5_ : Aside0 (gb482 ≠ gb488) := ⟨h5_⟩
            have n6_ : Aside0 (gb488 ≠ gb482) := ⟨h6_⟩
            have n7_ : Aside0 (gb483 ≠ gb488) := ⟨h7_⟩
            have n8_ : Aside0 (gb488 ≠ gb483) := ⟨h8_⟩
            have n9_ : Aside0 (Below w.heap.size w w20) := ⟨h9_⟩
            clear BK482
            clear BK483
            clear HB
            clear h0_ h1_ h2_ h3_ h4_ h5_ h6_ h7_ h8_ h9_
            have BK482 := n0_
            have BK483 := n1_
            have BK488 := n2_
            have GW488 := n3_
            have GE488 := n4_
            have NB482_488 := n5_
            have NB488_482 := n6_
            have NB483_488 := n7_
            have NB488_483 := n8_
            have HB := n9_
            clear n0_ n1_ n2_ n3_ n4_ n5_ n6_ n7_ n8_ n9_
            have hHeld : w20.cell? ⟨gb482, 0, none⟩ = some (.float .f64 t478) ∧ w20.cell? ⟨gb482, 1, none⟩ = some (.float .f64 t479) ∧ w20.cell? ⟨gb483, 0, none⟩ = some (.float .f64 t480) ∧ w20.cell? ⟨gb483, 1, none⟩ = some (.float .f64 t481) := hS_
            refine norm_ (a' := ?_) ?_ ?_
            rotate_left
            ·simp only [putAll, Act.put, List.setIfInBounds_toArray, List.set_cons_zero, List.set_cons_succ]
             rfl
            refine two_ (i := 2) (j := 7) (Ni := some 27) (Nj := some 6) #[true, true, true, true, true, false, true, false, false, false] #[true, true, false, true, true, false, true, true, false, false] rfl rfl rfl rfl (two_of HT_.out (by kernel_rfl)) (by decide) (by decide) (fun K hK => ?_) (fun K hK => ?_)
            ·skip
             refine goes_ Try.func23 (by kernel_rfl) rfl #[.agg #[.float .f64 t478, .float .f64 t479], .agg #[.float .f64 t480, .float .f64 t481]] (by rfl) rfl rfl gl ?_
             with_reducible refine (impl_PhTimes.calls t478 t479 t480 t481 _ _ HD14.out).mono ?_
             rintro e w21 ⟨t484, t485, hq_, rfl, hb⟩
             refine ⟨_, rfl, ?_⟩
             have HD13 := Aside0.mk hq_
             clear hq_ HD14
             have n0_ := Aside0.mk (bB BK482.out hb)
             have n1_ := Aside0.mk (bB BK483.out hb)
             have n2_ := Aside0.mk (bB BK488.out hb)
             have n3_ := Aside0.mk (below_step (bw3 HB.out GE482.out GE483.out GE488.out) hb)
             clear BK482
             clear BK483
             clear BK488
             clear HB
             have BK482 := n0_
             have BK483 := n1_
             have BK488 := n2_
             have HB := n3_
             clear n0_ n1_ n2_ n3_
             (try clear hb)
             (try clear hb2)
             (try clear hk)
             (try clear hi)
             refine hK.out _ _ ⟨(blk_cell BK482.out 0).trans rfl, (blk_cell BK482.out 1).trans rfl, (blk_cell BK483.out 0).trans rfl, (blk_cell BK483.out 1).trans rfl⟩ (fun hHeld => ?_)
             clear hK K
             refine norm_ (a' := ?_) ?_ ?_
             rotate_left
             ·show Act.put _ (some 27) _ = _
              simp only [Act.put, List.setIfInBounds_toArray, List.set_cons_zero, List.set_cons_succ, i64_w, i32_w]
              rfl
             exact norm_ (by first | (simp only [putAll, Act.put, List.setIfInBounds_toArray, List.set_cons_zero, List.set_cons_succ]; done) | (simp only [putAll, Act.put, List.setIfInBounds_toArray, List.set_cons_zero, List.set_cons_succ]; rfl)) (hJ2_6 (t484, t485, gb488) _ ⟨hHeld, (bk BK482.out), (bk BK483.out), (bk BK488.out), GW488.out, GE488.out, NB482_488.out, NB488_482.out, NB483_488.out, NB488_483.out, HD13.out, (bw3 HB.out GE482.out GE483.out GE488.out)⟩)
            ·skip
             refine box_step ?hg (N := 6) ?hd (cs := #[.float .f64 0, .float .f64 0]) (t := 28) ?hr ?_; (case hd => rfl); (case hg => rfl); (case hr => first | (go_simp; done) | (go_simp; rfl))
             intro gb489 hg w21 hbox hb
             have n0_ := Aside0.mk (bB BK482.out hb)
             have n1_ := Aside0.mk (bB BK483.out hb)
             have n2_ := Aside0.mk (bB BK488.out hb)
             have n3_ := Aside0.mk (below_step (bw3 HB.out GE482.out GE483.out GE488.out) hb)
             have n4_ := Aside0.mk (hbox)
             have n5_ := Aside0.mk ((by rw [hg]; exact (below_size (bw3 HB.out GE482.out GE483.out GE488.out)) : w.heap.size ≤ gb489))
             have n6_ := Aside0.mk ((by rw [hg]; exact (below_size (bw3 HB.out GE482.out GE483.out GE488.out)) : w.heap.size ≤ gb489))
             have n7_ := Aside0.mk ((by rw [hg]; exact Nat.ne_of_lt (bL BK482.out) : gb482 ≠ gb489))
             have n8_ := Aside0.mk ((by rw [hg]; exact Nat.ne_of_gt (bL BK482.out) : gb489 ≠ gb482))
             have n9_ := Aside0.mk ((by rw [hg]; exact Nat.ne_of_lt (bL BK483.out) : gb483 ≠ gb489))
             have n10_ := Aside0.mk ((by rw [hg]; exact Nat.ne_of_gt (bL BK483.out) : gb489 ≠ gb483))
             have n11_ := Aside0.mk ((by rw [hg]; exact Nat.ne_of_lt (bL BK488.out) : gb488 ≠ gb489))
             have n12_ := Aside0.mk ((by rw [hg]; exact Nat.ne_of_gt (bL BK488.out) : gb489 ≠ gb488))
             clear BK482
             clear BK483
             clear BK488
             clear HB
             have BK482 := n0_
             have BK483 := n1_
             have BK488 := n2_
             have HB := n3_
             have BK489 := n4_
             have GW489 := n5_
             have GE489 := n6_
             have NB482_489 := n7_
             have NB489_482 := n8_
             have NB483_489 := n9_
             have NB489_483 := n10_
             have NB488_489 := n11_
             have NB489_488 := n12_
             clear n0_ n1_ n2_ n3_ n4_ n5_ n6_ n7_ n8_ n9_ n10_ n11_ n12_
             clear hb hbox hg
             refine hK.out _ _ ⟨(blk_cell BK482.out 0).trans rfl, (blk_cell BK482.out 1).trans rfl, (blk_cell BK483.out 0).trans rfl, (blk_cell BK483.out 1).trans rfl⟩ (fun hHeld => ?_)
             clear hK K
             refine norm_ (a' := ?_) ?_ ?_
             rotate_left
             ·show Act.put _ (some 6) _ = _
              simp only [Act.put, List.setIfInBounds_toArray, List.set_cons_zero, List.set_cons_succ, i64_w, i32_w]
              rfl
             exact norm_ (by first | (simp only [putAll, Act.put, List.setIfInBounds_toArray, List.set_cons_zero, List.set_cons_succ]; done) | (simp only [putAll, Act.put, List.setIfInBounds_toArray, List.set_cons_zero, List.set_cons_succ]; rfl)) (hJ6_7 (gb488, gb489) _ ⟨hHeld, (bk BK482.out), (bk BK483.out), (bk BK488.out), (bk BK489.out), GW488.out, GE488.out, NB482_488.out, NB488_482.out, NB483_488.out, NB488_483.out, NB489_488.out, NB488_489.out, GW489.out, GE489.out, NB482_489.out, NB489_482.out, NB483_489.out, NB489_483.out, (bw4 HB.out GE482.out GE483.out GE488.out GE489.out)⟩)
          ·skip
           rintro ⟨t484, t485⟩ w20 ⟨hS_, h0_, h1_, h2_, h3_⟩
           have n0_ : Aside0 (w20.heap[gb482]? = some (.cells #[.float .f64 t478, .float .f64 t479] 28 (0, 0))) := ⟨h0_⟩
           have n1_ : Aside0 (w20.heap[gb483]? = some (.cells #[.float .f64 t480, .float .f64 t481] 28 (0, 0))) := ⟨h1_⟩
           have n2_ : Aside0 (impl_PhTimes.f t480 t481 t478 t479 (fun bt486 => (∃ t490, laws_sameBits.f t484 bt486.1 = some t490 ∧ (if t490 = true then (∃ t491, laws_sameBits.f t485 bt486.2 = some t491 ∧ (laws_FnPhasors.j0 k l0 (!t491))) else (laws_FnPhasors.j0 k l0 true))))) := ⟨h2_⟩
           have n3_ : Aside0 (Below w.heap.size w w20) := ⟨h3_⟩
           clear BK482
           clear BK483
           clear HB
           clear h0_ h1_ h2_ h3_
           have BK482 := n0_
           have BK483 := n1_
           have HD13 := n2_
           have HB := n3_
           clear n0_ n1_ n2_ n3_
           have hHeld : w20.cell? ⟨gb482, 0, none⟩ = some (.float .f64 t478) ∧ w20.cell? ⟨gb482, 1, none⟩ = some (.float .f64 t479) ∧ w20.cell? ⟨gb483, 0, none⟩ = some (.float .f64 t480) ∧ w20.cell? ⟨gb483, 1, none⟩ = some (.float .f64 t481) := hS_
           refine norm_ (a' := ?_) ?_ ?_
           rotate_left
           ·simp only [putAll, Act.put, List.setIfInBounds_toArray, List.set_cons_zero, List.set_cons_succ]
            rfl
           refine three_ (i := 5) (j := 6) (k := 7) (Ni := some 30) (Nj := some 5) (Nk := some 6) #[true, true, true, true, true, true, false, false, false, false] #[true, true, true, true, true, false, true, false, false, false] #[true, true, true, true, true, false, false, true, false, false] rfl rfl rfl rfl rfl rfl (three_of HT_.out (by kernel_rfl)) (by decide) (by decide) (by decide) (fun K hK => ?_) (fun K hK => ?_) (fun K hK => ?_)
           ·skip
            refine goes_ Try.func23 (by kernel_rfl) rfl #[.agg #[.float .f64 t480, .float .f64 t481], .agg #[.float .f64 t478, .float .f64 t479]] (by rfl) rfl rfl gl ?_
            with_reducible refine (impl_PhTimes.calls t480 t481 t478 t479 _ _ HD13.out).mono ?_
            rintro e w21 ⟨t486, t487, hq_, rfl, hb⟩
            refine ⟨_, rfl, ?_⟩
            have HD15 := Aside0.mk hq_
            clear hq_
            have n0_ := Aside0.mk (bB BK482.out hb)
            have n1_ := Aside0.mk (bB BK483.out hb)
            have n2_ := Aside0.mk (below_step (bw2 HB.out GE482.out GE483.out) hb)
            clear BK482
            clear BK483
            clear HB
            have BK482 := n0_
            have BK483 := n1_
            have HB := n2_
            clear n0_ n1_ n2_
            (try clear hb)
            (try clear hb2)
            (try clear hk)
            (try clear hi)
            refine hK.out _ _ ⟨(blk_cell BK482.out 0).trans rfl, (blk_cell BK482.out 1).trans rfl, (blk_cell BK483.out 0).trans rfl, (blk_cell BK483.out 1).trans rfl⟩ (fun hHeld => ?_)
            clear hK K
            refine norm_ (a' := ?_) ?_ ?_
            rotate_left
            ·show Act.put _ (some 30) _ = _
             simp only [Act.put, List.setIfInBounds_toArray, List.set_cons_zero, List.set_cons_succ, i64_w, i32_w]
             rfl
            exact norm_ (by first | (simp only [putAll, Act.put, List.setIfInBounds_toArray, List.set_cons_zero, List.set_cons_succ]; done) | (simp only [putAll, Act.put, List.setIfInBounds_toArray, List.set_cons_zero, List.set_cons_succ]; rfl)) (hJ2_5 (t484, t485, t486, t487) _ ⟨hHeld, (bk BK482.out), (bk BK483.out), HD13.out, HD15.out, (bw2 HB.out GE482.out GE483.out)⟩)
           ·skip
            refine box_step ?hg (N := 5) ?hd (cs := #[.float .f64 0, .float .f64 0]) (t := 28) ?hr ?_; (case hd => rfl); (case hg => rfl); (case hr => first | (go_simp; done) | (go_simp; rfl))
            intro gb488 hg w21 hbox hb
            have n0_ := Aside0.mk (bB BK482.out hb)
            have n1_ := Aside0.mk (bB BK483.out hb)
            have n2_ := Aside0.mk (below_step (bw2 HB.out GE482.out GE483.out) hb)
            have n3_ := Aside0.mk (hbox)
            have n4_ := Aside0.mk ((by rw [hg]; exact (below_size (bw2 HB.out GE482.out GE483.out)) : w.heap.size ≤ gb488))
            have n5_ := Aside0.mk ((by rw [hg]; exact (below_size (bw2 HB.out GE482.out GE483.out)) : w.heap.size ≤ gb488))
            have n6_ := Aside0.mk ((by rw [hg]; exact Nat.ne_of_lt (bL BK482.out) : gb482 ≠ gb488))
            have n7_ := Aside0.mk ((by rw [hg]; exact Nat.ne_of_gt (bL BK482.out) : gb488 ≠ gb482))
            have n8_ := Aside0.mk ((by rw [hg]; exact Nat.ne_of_lt (bL BK483.out) : gb483 ≠ gb488))
            have n9_ := Aside0.mk ((by rw [hg]; exact Nat.ne_of_gt (bL BK483.out) : gb488 ≠ gb483))
            clear BK482
            clear BK483
            clear HB
            have BK482 := n0_
            have BK483 := n1_
            have HB := n2_
            have BK488 := n3_
            have GW488 := n4_
            have GE488 := n5_
            have NB482_488 := n6_
            have NB488_482 := n7_
            have NB483_488 := n8_
            have NB488_483 := n9_
            clear n0_ n1_ n2_ n3_ n4_ n5_ n6_ n7_ n8_ n9_
            clear hb hbox hg
            refine hK.out _ _ ⟨(blk_cell BK482.out 0).trans rfl, (blk_cell BK482.out 1).trans rfl, (blk_cell BK483.out 0).trans rfl, (blk_cell BK483.out 1).trans rfl⟩ (fun hHeld => ?_)
            clear hK K
            refine norm_ (a' := ?_) ?_ ?_
            rotate_left
            ·show Act.put _ (some 5) _ = _
             simp only [Act.put, List.setIfInBounds_toArray, List.set_cons_zero, List.set_cons_succ, i64_w, i32_w]
             rfl
            exact norm_ (by first | (simp only [putAll, Act.put, List.setIfInBounds_toArray, List.set_cons_zero, List.set_cons_succ]; done) | (simp only [putAll, Act.put, List.setIfInBounds_toArray, List.set_cons_zero, List.set_cons_succ]; rfl)) (hJ2_6 (t484, t485, gb488) _ ⟨hHeld, (bk BK482.out), (bk BK483.out), (bk BK488.out), GW488.out, GE488.out, NB482_488.out, NB488_482.out, NB483_488.out, NB488_483.out, HD13.out, (bw3 HB.out GE482.out GE483.out GE488.out)⟩)
           ·skip
            refine box_step ?hg (N := 6) ?hd (cs := #[.float .f64 0, .float .f64 0]) (t := 28) ?hr ?_; (case hd => rfl); (case hg => rfl); (case hr => first | (go_simp; done) | (go_simp; rfl))
            intro gb489 hg w21 hbox hb
            have n0_ := Aside0.mk (bB BK482.out hb)
            have n1_ := Aside0.mk (bB BK483.out hb)
            have n2_ := Aside0.mk (below_step (bw2 HB.out GE482.out GE483.out) hb)
            have n3_ := Aside0.mk (hbox)
            have n4_ := Aside0.mk ((by rw [hg]; exact (below_size (bw2 HB.out GE482.out GE483.out)) : w.heap.size ≤ gb489))
            have n5_ := Aside0.mk ((by rw [hg]; exact (below_size (bw2 HB.out GE482.out GE483.out)) : w.heap.size ≤ gb489))
            have n6_ := Aside0.mk ((by rw [hg]; exact Nat.ne_of_lt (bL BK482.out) : gb482 ≠ gb489))
            have n7_ := Aside0.mk ((by rw [hg]; exact Nat.ne_of_gt (bL BK482.out) : gb489 ≠ gb482))
            have n8_ := Aside0.mk ((by rw [hg]; exact Nat.ne_of_lt (bL BK483.out) : gb483 ≠ gb489))
            have n9_ := Aside0.mk ((by rw [hg]; exact Nat.ne_of_gt (bL BK483.out) : gb489 ≠ gb483))
            clear BK482
            clear BK483
            clear HB
            have BK482 := n0_
            have BK483 := n1_
            have HB := n2_
            have BK489 := n3_
            have GW489 := n4_
            have GE489 := n5_
            have NB482_489 := n6_
            have NB489_482 := n7_
            have NB483_489 := n8_
            have NB489_483 := n9_
            clear n0_ n1_ n2_ n3_ n4_ n5_ n6_ n7_ n8_ n9_
            clear hb hbox hg
            refine hK.out _ _ ⟨(blk_cell BK482.out 0).trans rfl, (blk_cell BK482.out 1).trans rfl, (blk_cell BK483.out 0).trans rfl, (blk_cell BK483.out 1).trans rfl⟩ (fun hHeld => ?_)
            clear hK K
            refine norm_ (a' := ?_) ?_ ?_
            rotate_left
            ·show Act.put _ (some 6) _ = _
             simp only [Act.put, List.setIfInBounds_toArray, List.set_cons_zero, List.set_cons_succ, i64_w, i32_w]
             rfl
            exact norm_ (by first | (simp only [putAll, Act.put, List.setIfInBounds_toArray, List.set_cons_zero, List.set_cons_succ]; done) | (simp only [putAll, Act.put, List.setIfInBounds_toArray, List.set_cons_zero, List.set_cons_succ]; rfl)) (hJ2_7 (t484, t485, gb489) _ ⟨hHeld, (bk BK482.out), (bk BK483.out), (bk BK489.out), GW489.out, GE489.out, NB482_489.out, NB489_482.out, NB483_489.out, NB489_483.out, HD13.out, (bw3 HB.out GE482.out GE483.out GE489.out)⟩)
         ·skip
          rintro ⟨gb488, gb489⟩ w21 ⟨hS_, h0_, h1_, h2_, h3_, h4_, h5_, h6_, h7_, h8_, h9_, h10_, h11_, h12_, h13_, h14_, h15_, h16_, h17_, h18_⟩
          have n0_ : Aside0 (w21.heap[gb482]? = some (.cells #[.float .f64 t478, .float .f64 t479] 28 (0, 0))) := ⟨h0_⟩
          have n1_ : Aside0 (w21.heap[gb483]? = some (.cells #[.float .f64 t480, .float .f64 t481] 28 (0, 0))) := ⟨h1_⟩
          have n2_ : Aside0 (w21.heap[gb488]? = some (.cells #[.float .f64 0, .float .f64 0] 28 (0, 0))) := ⟨h2_⟩
          have n3_ : Aside0 (w21.heap[gb489]? = some (.cells #[.float .f64 0, .float .f64 0] 28 (0, 0))) := ⟨h3_⟩
          have n4_ : Aside0 (w.heap.size ≤ gb488) := ⟨h4_⟩
          have n5_ : Aside0 (w.heap.size ≤ gb488) := ⟨h5_⟩
          have n6_ : Aside0 (gb482 ≠ gb488) := ⟨h6_⟩
          have n7_ : Aside0 (gb488 ≠ gb482) := ⟨h7_⟩
          have n8_ : Aside0 (gb483 ≠ gb488) := ⟨h8_⟩
          have n9_ : Aside0 (gb488 ≠ gb483) := ⟨h9_⟩
          have n10_ : Aside0 (gb489 ≠ gb488) := ⟨h10_⟩
          have n11_ : Aside0 (gb488 ≠ gb489) := ⟨h11_⟩
          have n12_ : Aside0 (w.heap.size ≤ gb489) := ⟨h12_⟩
          have n13_ : Aside0 (w.heap.size ≤ gb489) := ⟨h13_⟩
          have n14_ : Aside0 (gb482 ≠ gb489) := ⟨h14_⟩
          have n15_ : Aside0 (gb489 ≠ gb482) := ⟨h15_⟩
          have n16_ : Aside0 (gb483 ≠ gb489) := ⟨h16_⟩
          have n17_ : Aside0 (gb489 ≠ gb483) := ⟨h17_⟩
          have n18_ : Aside0 (Below w.heap.size w w21) := ⟨h18_⟩
          clear BK482
          clear BK483
          clear HB
          clear h0_ h1_ h2_ h3_ h4_ h5_ h6_ h7_ h8_ h9_ h10_ h11_ h12_ h13_ h14_ h15_ h16_ h17_ h18_
          have BK482 := n0_
          have BK483 := n1_
          have BK488 := n2_
          have BK489 := n3_
          have GW488 := n4_
          have GE488 := n5_
          have NB482_488 := n6_
          have NB488_482 := n7_
          have NB483_488 := n8_
          have NB488_483 := n9_
          have NB489_488 := n10_
          have NB488_489 := n11_
          have GW489 := n12_
          have GE489 := n13_
          have NB482_489 := n14_
          have NB489_482 := n15_
          have NB483_489 := n16_
          have NB489_483 := n17_
          have HB := n18_
          clear n0_ n1_ n2_ n3_ n4_ n5_ n6_ n7_ n8_ n9_ n10_ n11_ n12_ n13_ n14_ n15_ n16_ n17_ n18_
          have hHeld : w21.cell? ⟨gb482, 0, none⟩ = some (.float .f64 t478) ∧ w21.cell? ⟨gb482, 1, none⟩ = some (.float .f64 t479) ∧ w21.cell? ⟨gb483, 0, none⟩ = some (.float .f64 t480) ∧ w21.cell? ⟨gb483, 1, none⟩ = some (.float .f64 t481) := hS_
          refine norm_ (a' := ?_) ?_ ?_
          rotate_left
          ·simp only [putAll, Act.put, List.setIfInBounds_toArray, List.set_cons_zero, List.set_cons_succ]
           rfl
          refine one_ (i := 2) (N := some 27) #[true, true, true, true, true, false, true, true, false, false] rfl rfl (one_of HT_.out (by kernel_rfl)) (by decide) (fun K hK => ?_)
          refine goes_ Try.func23 (by kernel_rfl) rfl #[.agg #[.float .f64 t478, .float .f64 t479], .agg #[.float .f64 t480, .float .f64 t481]] (by rfl) rfl rfl gl ?_
          with_reducible refine (impl_PhTimes.calls t478 t479 t480 t481 _ _ HD14.out).mono ?_
          rintro e w22 ⟨t484, t485, hq_, rfl, hb⟩
          refine ⟨_, rfl, ?_⟩
          have HD13 := Aside0.mk hq_
          clear hq_ HD14
          have n0_ := Aside0.mk (bB BK482.out hb)
          have n1_ := Aside0.mk (bB BK483.out hb)
          have n2_ := Aside0.mk (bB BK488.out hb)
          have n3_ := Aside0.mk (bB BK489.out hb)
          have n4_ := Aside0.mk (below_step (bw4 HB.out GE482.out GE483.out GE488.out GE489.out) hb)
          clear BK482
          clear BK483
          clear BK488
          clear BK489
          clear HB
          have BK482 := n0_
          have BK483 := n1_
          have BK488 := n2_
          have BK489 := n3_
          have HB := n4_
          clear n0_ n1_ n2_ n3_ n4_
          (try clear hb)
          (try clear hb2)
          (try clear hk)
          (try clear hi)
          refine hK.out _ _ ⟨(blk_cell BK482.out 0).trans rfl, (blk_cell BK482.out 1).trans rfl, (blk_cell BK483.out 0).trans rfl, (blk_cell BK483.out 1).trans rfl⟩ (fun hHeld => ?_)
          clear hK K
          refine norm_ (a' := ?_) ?_ ?_
          rotate_left
          ·show Act.put _ (some 27) _ = _
           simp only [Act.put, List.setIfInBounds_toArray, List.set_cons_zero, List.set_cons_succ, i64_w, i32_w]
           rfl
          exact norm_ (by first | (simp only [putAll, Act.put, List.setIfInBounds_toArray, List.set_cons_zero, List.set_cons_succ]; done) | (simp only [putAll, Act.put, List.setIfInBounds_toArray, List.set_cons_zero, List.set_cons_succ]; rfl)) (hJ2_6_7 (t484, t485, gb488, gb489) _ ⟨hHeld, (bk BK482.out), (bk BK483.out), (bk BK488.out), (bk BK489.out), GW488.out, GE488.out, NB482_488.out, NB488_482.out, NB483_488.out, NB488_483.out, NB489_488.out, NB488_489.out, GW489.out, GE489.out, NB482_489.out, NB489_482.out, NB483_489.out, NB489_483.out, HD13.out, (bw4 HB.out GE482.out GE483.out GE488.out GE489.out)⟩)
        ·skip
         rintro ⟨t484, t485, gb489⟩ w21 ⟨hS_, h0_, h1_, h2_, h3_, h4_, h5_, h6_, h7_, h8_, h9_, h10_⟩
         have n0_ : Aside0 (w21.heap[gb482]? = some (.cells #[.float .f64 t478, .float .f64 t479] 28 (0, 0))) := ⟨h0_⟩
         have n1_ : Aside0 (w21.heap[gb483]? = some (.cells #[.float .f64 t480, .float .f64 t481] 28 (0, 0))) := ⟨h1_⟩
         have n2_ : Aside0 (w21.heap[gb489]? = some (.cells #[.float .f64 0, .float .f64 0] 28 (0, 0))) := ⟨h2_⟩
         have n3_ : Aside0 (w.heap.size ≤ gb489) := ⟨h3_⟩
         have n4_ : Aside0 (w.heap.size ≤ gb489) := ⟨h4_⟩
         have n5_ : Aside0 (gb482 ≠ gb489) := ⟨h5_⟩
         have n6_ : Aside0 (gb489 ≠ gb482) := ⟨h6_⟩
         have n7_ : Aside0 (gb483 ≠ gb489) := ⟨h7_⟩
         have n8_ : Aside0 (gb489 ≠ gb483) := ⟨h8_⟩
         have n9_ : Aside0 (impl_PhTimes.f t480 t481 t478 t479 (fun bt486 => (∃ t490, laws_sameBits.f t484 bt486.1 = some t490 ∧ (if t490 = true then (∃ t491, laws_sameBits.f t485 bt486.2 = some t491 ∧ (laws_FnPhasors.j0 k l0 (!t491))) else (laws_FnPhasors.j0 k l0 true))))) := ⟨h9_⟩
         have n10_ : Aside0 (Below w.heap.size w w21) := ⟨h10_⟩
         clear BK482
         clear BK483
         clear HB
         clear h0_ h1_ h2_ h3_ h4_ h5_ h6_ h7_ h8_ h9_ h10_
         have BK482 := n0_
         have BK483 := n1_
         have BK489 := n2_
         have GW489 := n3_
         have GE489 := n4_
         have NB482_489 := n5_
         have NB489_482 := n6_
         have NB483_489 := n7_
         have NB489_483 := n8_
         have HD13 := n9_
         have HB := n10_
         clear n0_ n1_ n2_ n3_ n4_ n5_ n6_ n7_ n8_ n9_ n10_
         have hHeld : w21.cell? ⟨gb482, 0, none⟩ = some (.float .f64 t478) ∧ w21.cell? ⟨gb482, 1, none⟩ = some (.float .f64 t479) ∧ w21.cell? ⟨gb483, 0, none⟩ = some (.float .f64 t480) ∧ w21.cell? ⟨gb483, 1, none⟩ = some (.float .f64 t481) := hS_
         refine norm_ (a' := ?_) ?_ ?_
         rotate_left
         ·simp only [putAll, Act.put, List.setIfInBounds_toArray, List.set_cons_zero, List.set_cons_succ]
          rfl
         refine two_ (i := 5) (j := 6) (Ni := some 30) (Nj := some 5) #[true, true, true, true, true, true, false, true, false, false] #[true, true, true, true, true, false, true, true, false, false] rfl rfl rfl rfl (two_of HT_.out (by kernel_rfl)) (by decide) (by decide) (fun K hK => ?_) (fun K hK => ?_)
         ·skip
          refine goes_ Try.func23 (by kernel_rfl) rfl #[.agg #[.float .f64 t480, .float .f64 t481], .agg #[.float .f64 t478, .float .f64 t479]] (by rfl) rfl rfl gl ?_
          with_reducible refine (impl_PhTimes.calls t480 t481 t478 t479 _ _ HD13.out).mono ?_
          rintro e w22 ⟨t486, t487, hq_, rfl, hb⟩
          refine ⟨_, rfl, ?_⟩
          have HD15 := Aside0.mk hq_
          clear hq_
          have n0_ := Aside0.mk (bB BK482.out hb)
          have n1_ := Aside0.mk (bB BK483.out hb)
          have n2_ := Aside0.mk (bB BK489.out hb)
          have n3_ := Aside0.mk (below_step (bw3 HB.out GE482.out GE483.out GE489.out) hb)
          clear BK482
          clear BK483
          clear BK489
          clear HB
          have BK482 := n0_
          have BK483 := n1_
          have BK489 := n2_
          have HB := n3_
          clear n0_ n1_ n2_ n3_
          (try clear hb)
          (try clear hb2)
          (try clear hk)
          (try clear hi)
          refine hK.out _ _ ⟨(blk_cell BK482.out 0).trans rfl, (blk_cell BK482.out 1).trans rfl, (blk_cell BK483.out 0).trans rfl, (blk_cell BK483.out 1).trans rfl⟩ (fun hHeld => ?_)
          clear hK K
          refine norm_ (a' := ?_) ?_ ?_
          rotate_left
          ·show Act.put _ (some 30) _ = _
           simp only [Act.put, List.setIfInBounds_toArray, List.set_cons_zero, List.set_cons_succ, i64_w, i32_w]
           rfl
          exact norm_ (by first | (simp only [putAll, Act.put, List.setIfInBounds_toArray, List.set_cons_zero, List.set_cons_succ]; done) | (simp only [putAll, Act.put, List.setIfInBounds_toArray, List.set_cons_zero, List.set_cons_succ]; rfl)) (hJ2_5_7 (t484, t485, t486, t487, gb489) _ ⟨hHeld, (bk BK482.out), (bk BK483.out), (bk BK489.out), GW489.out, GE489.out, NB482_489.out, NB489_482.out, NB483_489.out, NB489_483.out, HD13.out, HD15.out, (bw3 HB.out GE482.out GE483.out GE489.out)⟩)
         ·skip
          refine box_step ?hg (N := 5) ?hd (cs := #[.float .f64 0, .float .f64 0]) (t := 28) ?hr ?_; (case hd => rfl); (case hg => rfl); (case hr => first | (go_simp; done) | (go_simp; rfl))
          intro gb488 hg w22 hbox hb
          have n0_ := Aside0.mk (bB BK482.out hb)
          have n1_ := Aside0.mk (bB BK483.out hb)
          have n2_ := Aside0.mk (bB BK489.out hb)
          have n3_ := Aside0.mk (below_step (bw3 HB.out GE482.out GE483.out GE489.out) hb)
          have n4_ := Aside0.mk (hbox)
          have n5_ := Aside0.mk ((by rw [hg]; exact (below_size (bw3 HB.out GE482.out GE483.out GE489.out)) : w.heap.size ≤ gb488))
          have n6_ := Aside0.mk ((by rw [hg]; exact (below_size (bw3 HB.out GE482.out GE483.out GE489.out)) : w.heap.size ≤ gb488))
          have n7_ := Aside0.mk ((by rw [hg]; exact Nat.ne_of_lt (bL BK482.out) : gb482 ≠ gb488))
          have n8_ := Aside0.mk ((by rw [hg]; exact Nat.ne_of_gt (bL BK482.out) : gb488 ≠ gb482))
          have n9_ := Aside0.mk ((by rw [hg]; exact Nat.ne_of_lt (bL BK483.out) : gb483 ≠ gb488))
          have n10_ := Aside0.mk ((by rw [hg]; exact Nat.ne_of_gt (bL BK483.out) : gb488 ≠ gb483))
          have n11_ := Aside0.mk ((by rw [hg]; exact Nat.ne_of_lt (bL BK489.out) : gb489 ≠ gb488))
          have n12_ := Aside0.mk ((by rw [hg]; exact Nat.ne_of_gt (bL BK489.out) : gb488 ≠ gb489))
          clear BK482
          clear BK483
          clear BK489
          clear HB
          have BK482 := n0_
          have BK483 := n1_
          have BK489 := n2_
          have HB := n3_
          have BK488 := n4_
          have GW488 := n5_
          have GE488 := n6_
          have NB482_488 := n7_
          have NB488_482 := n8_
          have NB483_488 := n9_
          have NB488_483 := n10_
          have NB489_488 := n11_
          have NB488_489 := n12_
          clear n0_ n1_ n2_ n3_ n4_ n5_ n6_ n7_ n8_ n9_ n10_ n11_ n12_
          clear hb hbox hg
          refine hK.out _ _ ⟨(blk_cell BK482.out 0).trans rfl, (blk_cell BK482.out 1).trans rfl, (blk_cell BK483.out 0).trans rfl, (blk_cell BK483.out 1).trans rfl⟩ (fun hHeld => ?_)
          clear hK K
          refine norm_ (a' := ?_) ?_ ?_
          rotate_left
          ·show Act.put _ (some 5) _ = _
           simp only [Act.put, List.setIfInBounds_toArray, List.set_cons_zero, List.set_cons_succ, i64_w, i32_w]
           rfl
          exact norm_ (by first | (simp only [putAll, Act.put, List.setIfInBounds_toArray, List.set_cons_zero, List.set_cons_succ]; done) | (simp only [putAll, Act.put, List.setIfInBounds_toArray, List.set_cons_zero, List.set_cons_succ]; rfl)) (hJ2_6_7 (t484, t485, gb488, gb489) _ ⟨hHeld, (bk BK482.out), (bk BK483.out), (bk BK488.out), (bk BK489.out), GW488.out, GE488.out, NB482_488.out, NB488_482.out, NB483_488.out, NB488_483.out, NB489_488.out, NB488_489.out, GW489.out, GE489.out, NB482_489.out, NB489_482.out, NB483_489.out, NB489_483.out, HD13.out, (bw4 HB.out GE482.out GE483.out GE489.out GE488.out)⟩)
       ·skip
        rintro ⟨t484, t485, gb488⟩ w21 ⟨hS_, h0_, h1_, h2_, h3_, h4_, h5_, h6_, h7_, h8_, h9_, h10_⟩
        have n0_ : Aside0 (w21.heap[gb482]? = some (.cells #[.float .f64 t478, .float .f64 t479] 28 (0, 0))) := ⟨h0_⟩
        have n1_ : Aside0 (w21.heap[gb483]? = some (.cells #[.float .f64 t480, .float .f64 t481] 28 (0, 0))) := ⟨h1_⟩
        have n2_ : Aside0 (w21.heap[gb488]? = some (.cells #[.float .f64 0, .float .f64 0] 28 (0, 0))) := ⟨h2_⟩
        have n3_ : Aside0 (w.heap.size ≤ gb488) := ⟨h3_⟩
        have n4_ : Aside0 (w.heap.size ≤ gb488) := ⟨h4_⟩
        have n5_ : Aside0 (gb482 ≠ gb488) := ⟨h5_⟩
        have n6_ : Aside0 (gb488 ≠ gb482) := ⟨h6_⟩
        have n7_ : Aside0 (gb483 ≠ gb488) := ⟨h7_⟩
        have n8_ : Aside0 (gb488 ≠ gb483) := ⟨h8_⟩
        have n9_ : Aside0 (impl_PhTimes.f t480 t481 t478 t479 (fun bt486 => (∃ t490, laws_sameBits.f t484 bt486.1 = some t490 ∧ (if t490 = true then (∃ t491, laws_sameBits.f t485 bt486.2 = some t491 ∧ (laws_FnPhasors.j0 k l0 (!t491))) else (laws_FnPhasors.j0 k l0 true))))) := ⟨h9_⟩
        have n10_ : Aside0 (Below w.heap.size w w21) := ⟨h10_⟩
        clear BK482
        clear BK483
        clear HB
        clear h0_ h1_ h2_ h3_ h4_ h5_ h6_ h7_ h8_ h9_ h10_
        have BK482 := n0_
        have BK483 := n1_
        have BK488 := n2_
        have GW488 := n3_
        have GE488 := n4_
        have NB482_488 := n5_
        have NB488_482 := n6_
        have NB483_488 := n7_
        have NB488_483 := n8_
        have HD13 := n9_
        have HB := n10_
        clear n0_ n1_ n2_ n3_ n4_ n5_ n6_ n7_ n8_ n9_ n10_
        have hHeld : w21.cell? ⟨gb482, 0, none⟩ = some (.float .f64 t478) ∧ w21.cell? ⟨gb482, 1, none⟩ = some (.float .f64 t479) ∧ w21.cell? ⟨gb483, 0, none⟩ = some (.float .f64 t480) ∧ w21.cell? ⟨gb483, 1, none⟩ = some (.float .f64 t481) := hS_
        refine norm_ (a' := ?_) ?_ ?_
        rotate_left
        ·simp only [putAll, Act.put, List.setIfInBounds_toArray, List.set_cons_zero, List.set_cons_succ]
         rfl
        refine two_ (i := 5) (j := 7) (Ni := some 30) (Nj := some 6) #[true, true, true, true, true, true, true, false, false, false] #[true, true, true, true, true, false, true, true, false, false] rfl rfl rfl rfl (two_of HT_.out (by kernel_rfl)) (by decide) (by decide) (fun K hK => ?_) (fun K hK => ?_)
        ·skip
         refine goes_ Try.func23 (by kernel_rfl) rfl #[.agg #[.float .f64 t480, .float .f64 t481], .agg #[.float .f64 t478, .float .f64 t479]] (by rfl) rfl rfl gl ?_
         with_reducible refine (impl_PhTimes.calls t480 t481 t478 t479 _ _ HD13.out).mono ?_
         rintro e w22 ⟨t486, t487, hq_, rfl, hb⟩
         refine ⟨_, rfl, ?_⟩
         have HD15 := Aside0.mk hq_
         clear hq_
         have n0_ := Aside0.mk (bB BK482.out hb)
         have n1_ := Aside0.mk (bB BK483.out hb)
         have n2_ := Aside0.mk (bB BK488.out hb)
         have n3_ := Aside0.mk (below_step (bw3 HB.out GE482.out GE483.out GE488.out) hb)
         clear BK482
         clear BK483
         clear BK488
         clear HB
         have BK482 := n0_
         have BK483 := n1_
         have BK488 := n2_
         have HB := n3_
         clear n0_ n1_ n2_ n3_
         (try clear hb)
         (try clear hb2)
         (try clear hk)
         (try clear hi)
         refine hK.out _ _ ⟨(blk_cell BK482.out 0).trans rfl, (blk_cell BK482.out 1).trans rfl, (blk_cell BK483.out 0).trans rfl, (blk_cell BK483.out 1).trans rfl⟩ (fun hHeld => ?_)
         clear hK K
         refine norm_ (a' := ?_) ?_ ?_
         rotate_left
         ·show Act.put _ (some 30) _ = _
          simp only [Act.put, List.setIfInBounds_toArray, List.set_cons_zero, List.set_cons_succ, i64_w, i32_w]
          rfl
         exact norm_ (by first | (simp only [putAll, Act.put, List.setIfInBounds_toArray, List.set_cons_zero, List.set_cons_succ]; done) | (simp only [putAll, Act.put, List.setIfInBounds_toArray, List.set_cons_zero, List.set_cons_succ]; rfl)) (hJ2_5_6 (t484, t485, t486, t487, gb488) _ ⟨hHeld, (bk BK482.out), (bk BK483.out), (bk BK488.out), GW488.out, GE488.out, NB482_488.out, NB488_482.out, NB483_488.out, NB488_483.out, HD13.out, HD15.out, (bw3 HB.out GE482.out GE483.out GE488.out)⟩)
        ·skip
         refine box_step ?hg (N := 6) ?hd (cs := #[.float .f64 0, .float .f64 0]) (t := 28) ?hr ?_; (case hd => rfl); (case hg => rfl); (case hr => first | (go_simp; done) | (go_simp; rfl))
         intro gb489 hg w22 hbox hb
         have n0_ := Aside0.mk (bB BK482.out hb)
         have n1_ := Aside0.mk (bB BK483.out hb)
         have n2_ := Aside0.mk (bB BK488.out hb)
         have n3_ := Aside0.mk (below_step (bw3 HB.out GE482.out GE483.out GE488.out) hb)
         have n4_ := Aside0.mk (hbox)
         have n5_ := Aside0.mk ((by rw [hg]; exact (below_size (bw3 HB.out GE482.out GE483.out GE488.out)) : w.heap.size ≤ gb489))
         have n6_ := Aside0.mk ((by rw [hg]; exact (below_size (bw3 HB.out GE482.out GE483.out GE488.out)) : w.heap.size ≤ gb489))
         have n7_ := Aside0.mk ((by rw [hg]; exact Nat.ne_of_lt (bL BK482.out) : gb482 ≠ gb489))
         have n8_ := Aside0.mk ((by rw [hg]; exact Nat.ne_of_gt (bL BK482.out) : gb489 ≠ gb482))
         have n9_ := Aside0.mk ((by rw [hg]; exact Nat.ne_of_lt (bL BK483.out) : gb483 ≠ gb489))
         have n10_ := Aside0.mk ((by rw [hg]; exact Nat.ne_of_gt (bL BK483.out) : gb489 ≠ gb483))
         have n11_ := Aside0.mk ((by rw [hg]; exact Nat.ne_of_lt (bL BK488.out) : gb488 ≠ gb489))
         have n12_ := Aside0.mk ((by rw [hg]; exact Nat.ne_of_gt (bL BK488.out) : gb489 ≠ gb488))
         clear BK482
         clear BK483
         clear BK488
         clear HB
         have BK482 := n0_
         have BK483 := n1_
         have BK488 := n2_
         have HB := n3_
         have BK489 := n4_
         have GW489 := n5_
         have GE489 := n6_
         have NB482_489 := n7_
         have NB489_482 := n8_
         have NB483_489 := n9_
         have NB489_483 := n10_
         have NB488_489 := n11_
         have NB489_488 := n12_
         clear n0_ n1_ n2_ n3_ n4_ n5_ n6_ n7_ n8_ n9_ n10_ n11_ n12_
         clear hb hbox hg
         refine hK.out _ _ ⟨(blk_cell BK482.out 0).trans rfl, (blk_cell BK482.out 1).trans rfl, (blk_cell BK483.out 0).trans rfl, (blk_cell BK483.out 1).trans rfl⟩ (fun hHeld => ?_)
         clear hK K
         refine norm_ (a' := ?_) ?_ ?_
         rotate_left
         ·show Act.put _ (some 6) _ = _
          simp only [Act.put, List.setIfInBounds_toArray, List.set_cons_zero, List.set_cons_succ, i64_w, i32_w]
          rfl
         exact norm_ (by first | (simp only [putAll, Act.put, List.setIfInBounds_toArray, List.set_cons_zero, List.set_cons_succ]; done) | (simp only [putAll, Act.put, List.setIfInBounds_toArray, List.set_cons_zero, List.set_cons_succ]; rfl)) (hJ2_6_7 (t484, t485, gb488, gb489) _ ⟨hHeld, (bk BK482.out), (bk BK483.out), (bk BK488.out), (bk BK489.out), GW488.out, GE488.out, NB482_488.out, NB488_482.out, NB483_488.out, NB488_483.out, NB489_488.out, NB488_489.out, GW489.out, GE489.out, NB482_489.out, NB489_482.out, NB483_489.out, NB489_483.out, HD13.out, (bw4 HB.out GE482.out GE483.out GE488.out GE489.out)⟩)
      ·skip
       rintro ⟨t484, t485, t486, t487⟩ w21 ⟨hS_, h0_, h1_, h2_, h3_, h4_⟩
       have n0_ : Aside0 (w21.heap[gb482]? = some (.cells #[.float .f64 t478, .float .f64 t479] 28 (0, 0))) := ⟨h0_⟩
       have n1_ : Aside0 (w21.heap[gb483]? = some (.cells #[.float .f64 t480, .float .f64 t481] 28 (0, 0))) := ⟨h1_⟩
       have n2_ : Aside0 (impl_PhTimes.f t480 t481 t478 t479 (fun bt486 => (∃ t490, laws_sameBits.f t484 bt486.1 = some t490 ∧ (if t490 = true then (∃ t491, laws_sameBits.f t485 bt486.2 = some t491 ∧ (laws_FnPhasors.j0 k l0 (!t491))) else (laws_FnPhasors.j0 k l0 true))))) := ⟨h2_⟩
       have n3_ : Aside0 (∃ t490, laws_sameBits.f t484 t486 = some t490 ∧ (if t490 = true then (∃ t491, laws_sameBits.f t485 t487 = some t491 ∧ (laws_FnPhasors.j0 k l0 (!t491))) else (laws_FnPhasors.j0 k l0 true))) := ⟨h3_⟩
       have n4_ : Aside0 (Below w.heap.size w w21) := ⟨h4_⟩
       clear BK482
       clear BK483
       clear HB
       clear h0_ h1_ h2_ h3_ h4_
       have BK482 := n0_
       have BK483 := n1_
       have HD13 := n2_
       have HD15 := n3_
       have HB := n4_
       clear n0_ n1_ n2_ n3_ n4_
       have hHeld : w21.cell? ⟨gb482, 0, none⟩ = some (.float .f64 t478) ∧ w21.cell? ⟨gb482, 1, none⟩ = some (.float .f64 t479) ∧ w21.cell? ⟨gb483, 0, none⟩ = some (.float .f64 t480) ∧ w21.cell? ⟨gb483, 1, none⟩ = some (.float .f64 t481) := hS_
       refine norm_ (a' := ?_) ?_ ?_
       rotate_left
       ·simp only [putAll, Act.put, List.setIfInBounds_toArray, List.set_cons_zero, List.set_cons_succ]
        rfl
       refine two_ (i := 6) (j := 7) (Ni := some 5) (Nj := some 6) #[true, true, true, true, true, true, true, false, false, false] #[true, true, true, true, true, true, false, true, false, false] rfl rfl rfl rfl (two_of HT_.out (by kernel_rfl)) (by decide) (by decide) (fun K hK => ?_) (fun K hK => ?_)
       ·skip
        refine box_step ?hg (N := 5) ?hd (cs := #[.float .f64 0, .float .f64 0]) (t := 28) ?hr ?_; (case hd => rfl); (case hg => rfl); (case hr => first | (go_simp; done) | (go_simp; rfl))
        intro gb488 hg w22 hbox hb
        have n0_ := Aside0.mk (bB BK482.out hb)
        have n1_ := Aside0.mk (bB BK483.out hb)
        have n2_ := Aside0.mk (below_step (bw2 HB.out GE482.out GE483.out) hb)
        have n3_ := Aside0.mk (hbox)
        have n4_ := Aside0.mk ((by rw [hg]; exact (below_size (bw2 HB.out GE482.out GE483.out)) : w.heap.size ≤ gb488))
        have n5_ := Aside0.mk ((by rw [hg]; exact (below_size (bw2 HB.out GE482.out GE483.out)) : w.heap.size ≤ gb488))
        have n6_ := Aside0.mk ((by rw [hg]; exact Nat.ne_of_lt (bL BK482.out) : gb482 ≠ gb488))
        have n7_ := Aside0.mk ((by rw [hg]; exact Nat.ne_of_gt (bL BK482.out) : gb488 ≠ gb482))
        have n8_ := Aside0.mk ((by rw [hg]; exact Nat.ne_of_lt (bL BK483.out) : gb483 ≠ gb488))
        have n9_ := Aside0.mk ((by rw [hg]; exact Nat.ne_of_gt (bL BK483.out) : gb488 ≠ gb483))
        clear BK482
        clear BK483
        clear HB
        have BK482 := n0_
        have BK483 := n1_
        have HB := n2_
        have BK488 := n3_
        have GW488 := n4_
        have GE488 := n5_
        have NB482_488 := n6_
        have NB488_482 := n7_
        have NB483_488 := n8_
        have NB488_483 := n9_
        clear n0_ n1_ n2_ n3_ n4_ n5_ n6_ n7_ n8_ n9_
        clear hb hbox hg
        refine hK.out _ _ ⟨(blk_cell BK482.out 0).trans rfl, (blk_cell BK482.out 1).trans rfl, (blk_cell BK483.out 0).trans rfl, (blk_cell BK483.out 1).trans rfl⟩ (fun hHeld => ?_)
        clear hK K
        refine norm_ (a' := ?_) ?_ ?_
        rotate_left
        ·show Act.put _ (some 5) _ = _
         simp only [Act.put, List.setIfInBounds_toArray, List.set_cons_zero, List.set_cons_succ, i64_w, i32_w]
         rfl
        exact norm_ (by first | (simp only [putAll, Act.put, List.setIfInBounds_toArray, List.set_cons_zero, List.set_cons_succ]; done) | (simp only [putAll, Act.put, List.setIfInBounds_toArray, List.set_cons_zero, List.set_cons_succ]; rfl)) (hJ2_5_6 (t484, t485, t486, t487, gb488) _ ⟨hHeld, (bk BK482.out), (bk BK483.out), (bk BK488.out), GW488.out, GE488.out, NB482_488.out, NB488_482.out, NB483_488.out, NB488_483.out, HD13.out, HD15.out, (bw3 HB.out GE482.out GE483.out GE488.out)⟩)
       ·skip
        refine box_step ?hg (N := 6) ?hd (cs := #[.float .f64 0, .float .f64 0]) (t := 28) ?hr ?_; (case hd => rfl); (case hg => rfl); (case hr => first | (go_simp; done) | (go_simp; rfl))
        intro gb489 hg w22 hbox hb
        have n0_ := Aside0.mk (bB BK482.out hb)
        have n1_ := Aside0.mk (bB BK483.out hb)
        have n2_ := Aside0.mk (below_step (bw2 HB.out GE482.out GE483.out) hb)
        have n3_ := Aside0.mk (hbox)
        have n4_ := Aside0.mk ((by rw [hg]; exact (below_size (bw2 HB.out GE482.out GE483.out)) : w.heap.size ≤ gb489))
        have n5_ := Aside0.mk ((by rw [hg]; exact (below_size (bw2 HB.out GE482.out GE483.out)) : w.heap.size ≤ gb489))
        have n6_ := Aside0.mk ((by rw [hg]; exact Nat.ne_of_lt (bL BK482.out) : gb482 ≠ gb489))
        have n7_ := Aside0.mk ((by rw [hg]; exact Nat.ne_of_gt (bL BK482.out) : gb489 ≠ gb482))
        have n8_ := Aside0.mk ((by rw [hg]; exact Nat.ne_of_lt (bL BK483.out) : gb483 ≠ gb489))
        have n9_ := Aside0.mk ((by rw [hg]; exact Nat.ne_of_gt (bL BK483.out) : gb489 ≠ gb483))
        clear BK482
        clear BK483
        clear HB
        have BK482 := n0_
        have BK483 := n1_
        have HB := n2_
        have BK489 := n3_
        have GW489 := n4_
        have GE489 := n5_
        have NB482_489 := n6_
        have NB489_482 := n7_
        have NB483_489 := n8_
        have NB489_483 := n9_
        clear n0_ n1_ n2_ n3_ n4_ n5_ n6_ n7_ n8_ n9_
        clear hb hbox hg
        refine hK.out _ _ ⟨(blk_cell BK482.out 0).trans rfl, (blk_cell BK482.out 1).trans rfl, (blk_cell BK483.out 0).trans rfl, (blk_cell BK483.out 1).trans rfl⟩ (fun hHeld => ?_)
        clear hK K
        refine norm_ (a' := ?_) ?_ ?_
        rotate_left
        ·show Act.put _ (some 6) _ = _
         simp only [Act.put, List.setIfInBounds_toArray, List.set_cons_zero, List.set_cons_succ, i64_w, i32_w]
         rfl
        exact norm_ (by first | (simp only [putAll, Act.put, List.setIfInBounds_toArray, List.set_cons_zero, List.set_cons_succ]; done) | (simp only [putAll, Act.put, List.setIfInBounds_toArray, List.set_cons_zero, List.set_cons_succ]; rfl)) (hJ2_5_7 (t484, t485, t486, t487, gb489) _ ⟨hHeld, (bk BK482.out), (bk BK483.out), (bk BK489.out), GW489.out, GE489.out, NB482_489.out, NB489_482.out, NB483_489.out, NB489_483.out, HD13.out, HD15.out, (bw3 HB.out GE482.out GE483.out GE489.out)⟩)
     ·skip
      rintro ⟨t484, t485, gb488, gb489⟩ w22 ⟨hS_, h0_, h1_, h2_, h3_, h4_, h5_, h6_, h7_, h8_, h9_, h10_, h11_, h12_, h13_, h14_, h15_, h16_, h17_, h18_, h19_⟩
      have n0_ : Aside0 (w22.heap[gb482]? = some (.cells #[.float .f64 t478, .float .f64 t479] 28 (0, 0))) := ⟨h0_⟩
      have n1_ : Aside0 (w22.heap[gb483]? = some (.cells #[.float .f64 t480, .float .f64 t481] 28 (0, 0))) := ⟨h1_⟩
      have n2_ : Aside0 (w22.heap[gb488]? = some (.cells #[.float .f64 0, .float .f64 0] 28 (0, 0))) := ⟨h2_⟩
      have n3_ : Aside0 (w22.heap[gb489]? = some (.cells #[.float .f64 0, .float .f64 0] 28 (0, 0))) := ⟨h3_⟩
      have n4_ : Aside0 (w.heap.size ≤ gb488) := ⟨h4_⟩
      have n5_ : Aside0 (w.heap.size ≤ gb488) := ⟨h5_⟩
      have n6_ : Aside0 (gb482 ≠ gb488) := ⟨h6_⟩
      have n7_ : Aside0 (gb488 ≠ gb482) := ⟨h7_⟩
      have n8_ : Aside0 (gb483 ≠ gb488) := ⟨h8_⟩
      have n9_ : Aside0 (gb488 ≠ gb483) := ⟨h9_⟩
      have n10_ : Aside0 (gb489 ≠ gb488) := ⟨h10_⟩
      have n11_ : Aside0 (gb488 ≠ gb489) := ⟨h11_⟩
      have n12_ : Aside0 (w.heap.size ≤ gb489) := ⟨h12_⟩
      have n13_ : Aside0 (w.heap.size ≤ gb489) := ⟨h13_⟩
      have n14_ : Aside0 (gb482 ≠ gb489) := ⟨h14_⟩
      have n15_ : Aside0 (gb489 ≠ gb482) := ⟨h15_⟩
      have n16_ : Aside0 (gb483 ≠ gb489) := ⟨h16_⟩
      have n17_ : Aside0 (gb489 ≠ gb483) := ⟨h17_⟩
      have n18_ : Aside0 (impl_PhTimes.f t480 t481 t478 t479 (fun bt486 => (∃ t490, laws_sameBits.f t484 bt486.1 = some t490 ∧ (if t490 = true then (∃ t491, laws_sameBits.f t485 bt486.2 = some t491 ∧ (laws_FnPhasors.j0 k l0 (!t491))) else (laws_FnPhasors.j0 k l0 true))))) := ⟨h18_⟩
      have n19_ : Aside0 (Below w.heap.size w w22) := ⟨h19_⟩
      clear BK482
      clear BK483
      clear HB
      clear h0_ h1_ h2_ h3_ h4_ h5_ h6_ h7_ h8_ h9_ h10_ h11_ h12_ h13_ h14_ h15_ h16_ h17_ h18_ h19_
      have BK482 := n0_
      have BK483 := n1_
      have BK488 := n2_
      have BK489 := n3_
      have GW488 := n4_
      have GE488 := n5_
      have NB482_488 := n6_
      have NB488_482 := n7_
      have NB483_488 := n8_
      have NB488_483 := n9_
      have NB489_488 := n10_
      have NB488_489 := n11_
      have GW489 := n12_
      have GE489 := n13_
      have NB482_489 := n14_
      have NB489_482 := n15_
      have NB483_489 := n16_
      have NB489_483 := n17_
      have HD13 := n18_
      have HB := n19_
      clear n0_ n1_ n2_ n3_ n4_ n5_ n6_ n7_ n8_ n9_ n10_ n11_ n12_ n13_ n14_ n15_ n16_ n17_ n18_ n19_
      have hHeld : w22.cell? ⟨gb482, 0, none⟩ = some (.float .f64 t478) ∧ w22.cell? ⟨gb482, 1, none⟩ = some (.float .f64 t479) ∧ w22.cell? ⟨gb483, 0, none⟩ = some (.float .f64 t480) ∧ w22.cell? ⟨gb483, 1, none⟩ = some (.float .f64 t481) := hS_
      refine norm_ (a' := ?_) ?_ ?_
      rotate_left
      ·simp only [putAll, Act.put, List.setIfInBounds_toArray, List.set_cons_zero, List.set_cons_succ]
       rfl
      refine one_ (i := 5) (N := some 30) #[true, true, true, true, true, true, true, true, false, false] rfl rfl (one_of HT_.out (by kernel_rfl)) (by decide) (fun K hK => ?_)
      refine goes_ Try.func23 (by kernel_rfl) rfl #[.agg #[.float .f64 t480, .float .f64 t481], .agg #[.float .f64 t478, .float .f64 t479]] (by rfl) rfl rfl gl ?_
      with_reducible refine (impl_PhTimes.calls t480 t481 t478 t479 _ _ HD13.out).mono ?_
      rintro e w23 ⟨t486, t487, hq_, rfl, hb⟩
      refine ⟨_, rfl, ?_⟩
      have HD15 := Aside0.mk hq_
      clear hq_
      have n0_ := Aside0.mk (bB BK482.out hb)
      have n1_ := Aside0.mk (bB BK483.out hb)
      have n2_ := Aside0.mk (bB BK488.out hb)
      have n3_ := Aside0.mk (bB BK489.out hb)
      have n4_ := Aside0.mk (below_step (bw4 HB.out GE482.out GE483.out GE488.out GE489.out) hb)
      clear BK482
      clear BK483
      clear BK488
      clear BK489
      clear HB
      have BK482 := n0_
      have BK483 := n1_
      have BK488 := n2_
      have BK489 := n3_
      have HB := n4_
      clear n0_ n1_ n2_ n3_ n4_
      (try clear hb)
      (try clear hb2)
      (try clear hk)
      (try clear hi)
      refine hK.out _ _ ⟨(blk_cell BK482.out 0).trans rfl, (blk_cell BK482.out 1).trans rfl, (blk_cell BK483.out 0).trans rfl, (blk_cell BK483.out 1).trans rfl⟩ (fun hHeld => ?_)
      clear hK K
      refine norm_ (a' := ?_) ?_ ?_
      rotate_left
      ·show Act.put _ (some 30) _ = _
       simp only [Act.put, List.setIfInBounds_toArray, List.set_cons_zero, List.set_cons_succ, i64_w, i32_w]
       rfl
      exact norm_ (by first | (simp only [putAll, Act.put, List.setIfInBounds_toArray, List.set_cons_zero, List.set_cons_succ]; done) | (simp only [putAll, Act.put, List.setIfInBounds_toArray, List.set_cons_zero, List.set_cons_succ]; rfl)) (hJ2_5_6_7 (t484, t485, t486, t487, gb488, gb489) _ ⟨hHeld, (bk BK482.out), (bk BK483.out), (bk BK488.out), (bk BK489.out), GW488.out, GE488.out, NB482_488.out, NB488_482.out, NB483_488.out, NB488_483.out, NB489_488.out, NB488_489.out, GW489.out, GE489.out, NB482_489.out, NB489_482.out, NB483_489.out, NB489_483.out, HD13.out, HD15.out, (bw4 HB.out GE482.out GE483.out GE488.out GE489.out)⟩)
    ·skip
     rintro ⟨t484, t485, t486, t487, gb489⟩ w22 ⟨hS_, h0_, h1_, h2_, h3_, h4_, h5_, h6_, h7_, h8_, h9_, h10_, h11_⟩
     have n0_ : Aside0 (w22.heap[gb482]? = some (.cells #[.float .f64 t478, .float .f64 t479] 28 (0, 0))) := ⟨h0_⟩
     have n1_ : Aside0 (w22.heap[gb483]? = some (.cells #[.float .f64 t480, .float .f64 t481] 28 (0, 0))) := ⟨h1_⟩
     have n2_ : Aside0 (w22.heap[gb489]? = some (.cells #[.float .f64 0, .float .f64 0] 28 (0, 0))) := ⟨h2_⟩
     have n3_ : Aside0 (w.heap.size ≤ gb489) := ⟨h3_⟩
     have n4_ : Aside0 (w.heap.size ≤ gb489) := ⟨h4_⟩
     have n5_ : Aside0 (gb482 ≠ gb489) := ⟨h5_⟩
     have n6_ : Aside0 (gb489 ≠ gb482) := ⟨h6_⟩
     have n7_ : Aside0 (gb483 ≠ gb489) := ⟨h7_⟩
     have n8_ : Aside0 (gb489 ≠ gb483) := ⟨h8_⟩
     have n9_ : Aside0 (impl_PhTimes.f t480 t481 t478 t479 (fun bt486 => (∃ t490, laws_sameBits.f t484 bt486.1 = some t490 ∧ (if t490 = true then (∃ t491, laws_sameBits.f t485 bt486.2 = some t491 ∧ (laws_FnPhasors.j0 k l0 (!t491))) else (laws_FnPhasors.j0 k l0 true))))) := ⟨h9_⟩
     have n10_ : Aside0 (∃ t490, laws_sameBits.f t484 t486 = some t490 ∧ (if t490 = true then (∃ t491, laws_sameBits.f t485 t487 = some t491 ∧ (laws_FnPhasors.j0 k l0 (!t491))) else (laws_FnPhasors.j0 k l0 true))) := ⟨h10_⟩
     have n11_ : Aside0 (Below w.heap.size w w22) := ⟨h11_⟩
     clear BK482
     clear BK483
     clear HB
     clear h0_ h1_ h2_ h3_ h4_ h5_ h6_ h7_ h8_ h9_ h10_ h11_
     have BK482 := n0_
     have BK483 := n1_
     have BK489 := n2_
     have GW489 := n3_
     have GE489 := n4_
     have NB482_489 := n5_
     have NB489_482 := n6_
     have NB483_489 := n7_
     have NB489_483 := n8_
     have HD13 := n9_
     have HD15 := n10_
     have HB := n11_
     clear n0_ n1_ n2_ n3_ n4_ n5_ n6_ n7_ n8_ n9_ n10_ n11_
     have hHeld : w22.cell? ⟨gb482, 0, none⟩ = some (.float .f64 t478) ∧ w22.cell? ⟨gb482, 1, none⟩ = some (.float .f64 t479) ∧ w22.cell? ⟨gb483, 0, none⟩ = some (.float .f64 t480) ∧ w22.cell? ⟨gb483, 1, none⟩ = some (.float .f64 t481) := hS_
     refine norm_ (a' := ?_) ?_ ?_
     rotate_left
     ·simp only [putAll, Act.put, List.setIfInBounds_toArray, List.set_cons_zero, List.set_cons_succ]
      rfl
     refine one_ (i := 6) (N := some 5) #[true, true, true, true, true, true, true, true, false, false] rfl rfl (one_of HT_.out (by kernel_rfl)) (by decide) (fun K hK => ?_)
     refine box_step ?hg (N := 5) ?hd (cs := #[.float .f64 0, .float .f64 0]) (t := 28) ?hr ?_; (case hd => rfl); (case hg => rfl); (case hr => first | (go_simp; done) | (go_simp; rfl))
     intro gb488 hg w23 hbox hb
     have n0_ := Aside0.mk (bB BK482.out hb)
     have n1_ := Aside0.mk (bB BK483.out hb)
     have n2_ := Aside0.mk (bB BK489.out hb)
     have n3_ := Aside0.mk (below_step (bw3 HB.out GE482.out GE483.out GE489.out) hb)
     have n4_ := Aside0.mk (hbox)
     have n5_ := Aside0.mk ((by rw [hg]; exact (below_size (bw3 HB.out GE482.out GE483.out GE489.out)) : w.heap.size ≤ gb488))
     have n6_ := Aside0.mk ((by rw [hg]; exact (below_size (bw3 HB.out GE482.out GE483.out GE489.out)) : w.heap.size ≤ gb488))
     have n7_ := Aside0.mk ((by rw [hg]; exact Nat.ne_of_lt (bL BK482.out) : gb482 ≠ gb488))
     have n8_ := Aside0.mk ((by rw [hg]; exact Nat.ne_of_gt (bL BK482.out) : gb488 ≠ gb482))
     have n9_ := Aside0.mk ((by rw [hg]; exact Nat.ne_of_lt (bL BK483.out) : gb483 ≠ gb488))
     have n10_ := Aside0.mk ((by rw [hg]; exact Nat.ne_of_gt (bL BK483.out) : gb488 ≠ gb483))
     have n11_ := Aside0.mk ((by rw [hg]; exact Nat.ne_of_lt (bL BK489.out) : gb489 ≠ gb488))
     have n12_ := Aside0.mk ((by rw [hg]; exact Nat.ne_of_gt (bL BK489.out) : gb488 ≠ gb489))
     clear BK482
     clear BK483
     clear BK489
     clear HB
     have BK482 := n0_
     have BK483 := n1_
     have BK489 := n2_
     have HB := n3_
     have BK488 := n4_
     have GW488 := n5_
     have GE488 := n6_
     have NB482_488 := n7_
     have NB488_482 := n8_
     have NB483_488 := n9_
     have NB488_483 := n10_
     have NB489_488 := n11_
     have NB488_489 := n12_
     clear n0_ n1_ n2_ n3_ n4_ n5_ n6_ n7_ n8_ n9_ n10_ n11_ n12_
     clear hb hbox hg
     refine hK.out _ _ ⟨(blk_cell BK482.out 0).trans rfl, (blk_cell BK482.out 1).trans rfl, (blk_cell BK483.out 0).trans rfl, (blk_cell BK483.out 1).trans rfl⟩ (fun hHeld => ?_)
     clear hK K
     refine norm_ (a' := ?_) ?_ ?_
     rotate_left
     ·show Act.put _ (some 5) _ = _
      simp only [Act.put, List.setIfInBounds_toArray, List.set_cons_zero, List.set_cons_succ, i64_w, i32_w]
      rfl
     exact norm_ (by first | (simp only [putAll, Act.put, List.setIfInBounds_toArray, List.set_cons_zero, List.set_cons_succ]; done) | (simp only [putAll, Act.put, List.setIfInBounds_toArray, List.set_cons_zero, List.set_cons_succ]; rfl)) (hJ2_5_6_7 (t484, t485, t486, t487, gb488, gb489) _ ⟨hHeld, (bk BK482.out), (bk BK483.out), (bk BK488.out), (bk BK489.out), GW488.out, GE488.out, NB482_488.out, NB488_482.out, NB483_488.out, NB488_483.out, NB489_488.out, NB488_489.out, GW489.out, GE489.out, NB482_489.out, NB489_482.out, NB483_489.out, NB489_483.out, HD13.out, HD15.out, (bw4 HB.out GE482.out GE483.out GE489.out GE488.out)⟩)
   ·skip
    rintro ⟨t484, t485, t486, t487, gb488⟩ w22 ⟨hS_, h0_, h1_, h2_, h3_, h4_, h5_, h6_, h7_, h8_, h9_, h10_, h11_⟩
    have n0_ : Aside0 (w22.heap[gb482]? = some (.cells #[.float .f64 t478, .float .f64 t479] 28 (0, 0))) := ⟨h0_⟩
    have n1_ : Aside0 (w22.heap[gb483]? = some (.cells #[.float .f64 t480, .float .f64 t481] 28 (0, 0))) := ⟨h1_⟩
    have n2_ : Aside0 (w22.heap[gb488]? = some (.cells #[.float .f64 0, .float .f64 0] 28 (0, 0))) := ⟨h2_⟩
    have n3_ : Aside0 (w.heap.size ≤ gb488) := ⟨h3_⟩
    have n4_ : Aside0 (w.heap.size ≤ gb488) := ⟨h4_⟩
    have n5_ : Aside0 (gb482 ≠ gb488) := ⟨h5_⟩
    have n6_ : Aside0 (gb488 ≠ gb482) := ⟨h6_⟩
    have n7_ : Aside0 (gb483 ≠ gb488) := ⟨h7_⟩
    have n8_ : Aside0 (gb488 ≠ gb483) := ⟨h8_⟩
    have n9_ : Aside0 (impl_PhTimes.f t480 t481 t478 t479 (fun bt486 => (∃ t490, laws_sameBits.f t484 bt486.1 = some t490 ∧ (if t490 = true then (∃ t491, laws_sameBits.f t485 bt486.2 = some t491 ∧ (laws_FnPhasors.j0 k l0 (!t491))) else (laws_FnPhasors.j0 k l0 true))))) := ⟨h9_⟩
    have n10_ : Aside0 (∃ t490, laws_sameBits.f t484 t486 = some t490 ∧ (if t490 = true then (∃ t491, laws_sameBits.f t485 t487 = some t491 ∧ (laws_FnPhasors.j0 k l0 (!t491))) else (laws_FnPhasors.j0 k l0 true))) := ⟨h10_⟩
    have n11_ : Aside0 (Below w.heap.size w w22) := ⟨h11_⟩
    clear BK482
    clear BK483
    clear HB
    clear h0_ h1_ h2_ h3_ h4_ h5_ h6_ h7_ h8_ h9_ h10_ h11_
    have BK482 := n0_
    have BK483 := n1_
    have BK488 := n2_
    have GW488 := n3_
    have GE488 := n4_
    have NB482_488 := n5_
    have NB488_482 := n6_
    have NB483_488 := n7_
    have NB488_483 := n8_
    have HD13 := n9_
    have HD15 := n10_
    have HB := n11_
    clear n0_ n1_ n2_ n3_ n4_ n5_ n6_ n7_ n8_ n9_ n10_ n11_
    have hHeld : w22.cell? ⟨gb482, 0, none⟩ = some (.float .f64 t478) ∧ w22.cell? ⟨gb482, 1, none⟩ = some (.float .f64 t479) ∧ w22.cell? ⟨gb483, 0, none⟩ = some (.float .f64 t480) ∧ w22.cell? ⟨gb483, 1, none⟩ = some (.float .f64 t481) := hS_
    refine norm_ (a' := ?_) ?_ ?_
    rotate_left
    ·simp only [putAll, Act.put, List.setIfInBounds_toArray, List.set_cons_zero, List.set_cons_succ]
     rfl
    refine one_ (i := 7) (N := some 6) #[true, true, true, true, true, true, true, true, false, false] rfl rfl (one_of HT_.out (by kernel_rfl)) (by decide) (fun K hK => ?_)
    refine box_step ?hg (N := 6) ?hd (cs := #[.float .f64 0, .float .f64 0]) (t := 28) ?hr ?_; (case hd => rfl); (case hg => rfl); (case hr => first | (go_simp; done) | (go_simp; rfl))
    intro gb489 hg w23 hbox hb
    have n0_ := Aside0.mk (bB BK482.out hb)
    have n1_ := Aside0.mk (bB BK483.out hb)
    have n2_ := Aside0.mk (bB BK488.out hb)
    have n3_ := Aside0.mk (below_step (bw3 HB.out GE482.out GE483.out GE488.out) hb)
    have n4_ := Aside0.mk (hbox)
    have n5_ := Aside0.mk ((by rw [hg]; exact (below_size (bw3 HB.out GE482.out GE483.out GE488.out)) : w.heap.size ≤ gb489))
    have n6_ := Aside0.mk ((by rw [hg]; exact (below_size (bw3 HB.out GE482.out GE483.out GE488.out)) : w.heap.size ≤ gb489))
    have n7_ := Aside0.mk ((by rw [hg]; exact Nat.ne_of_lt (bL BK482.out) : gb482 ≠ gb489))
    have n8_ := Aside0.mk ((by rw [hg]; exact Nat.ne_of_gt (bL BK482.out) : gb489 ≠ gb482))
    have n9_ := Aside0.mk ((by rw [hg]; exact Nat.ne_of_lt (bL BK483.out) : gb483 ≠ gb489))
    have n10_ := Aside0.mk ((by rw [hg]; exact Nat.ne_of_gt (bL BK483.out) : gb489 ≠ gb483))
    have n11_ := Aside0.mk ((by rw [hg]; exact Nat.ne_of_lt (bL BK488.out) : gb488 ≠ gb489))
    have n12_ := Aside0.mk ((by rw [hg]; exact Nat.ne_of_gt (bL BK488.out) : gb489 ≠ gb488))
    clear BK482
    clear BK483
    clear BK488
    clear HB
    have BK482 := n0_
    have BK483 := n1_
    have BK488 := n2_
    have HB := n3_
    have BK489 := n4_
    have GW489 := n5_
    have GE489 := n6_
    have NB482_489 := n7_
    have NB489_482 := n8_
    have NB483_489 := n9_
    have NB489_483 := n10_
    have NB488_489 := n11_
    have NB489_488 := n12_
    clear n0_ n1_ n2_ n3_ n4_ n5_ n6_ n7_ n8_ n9_ n10_ n11_ n12_
    clear hb hbox hg
    refine hK.out _ _ ⟨(blk_cell BK482.out 0).trans rfl, (blk_cell BK482.out 1).trans rfl, (blk_cell BK483.out 0).trans rfl, (blk_cell BK483.out 1).trans rfl⟩ (fun hHeld => ?_)
    clear hK K
    refine norm_ (a' := ?_) ?_ ?_
    rotate_left
    ·show Act.put _ (some 6) _ = _
     simp only [Act.put, List.setIfInBounds_toArray, List.set_cons_zero, List.set_cons_succ, i64_w, i32_w]
     rfl
    exact norm_ (by first | (simp only [putAll, Act.put, List.setIfInBounds_toArray, List.set_cons_zero, List.set_cons_succ]; done) | (simp only [putAll, Act.put, List.setIfInBounds_toArray, List.set_cons_zero, List.set_cons_succ]; rfl)) (hJ2_5_6_7 (t484, t485, t486, t487, gb488, gb489) _ ⟨hHeld, (bk BK482.out), (bk BK483.out), (bk BK488.out), (bk BK489.out), GW488.out, GE488.out, NB482_488.out, NB488_482.out, NB483_488.out, NB488_483.out, NB489_488.out, NB488_489.out, GW489.out, GE489.out, NB482_489.out, NB489_482.out, NB483_489.out, NB489_483.out, HD13.out, HD15.out, (bw4 HB.out GE482.out GE483.out GE488.out GE489.out)⟩)
  rintro ⟨t484, t485, t486, t487, gb488, gb489⟩ w23 ⟨hS_, h0_, h1_, h2_, h3_, h4_, h5_, h6_, h7_, h8_, h9_, h10_, h11_, h12_, h13_, h14_, h15_, h16_, h17_, h18_, h19_, h20_⟩
  have n0_ : Aside0 (w23.heap[gb482]? = some (.cells #[.float .f64 t478, .float .f64 t479] 28 (0, 0))) := ⟨h0_⟩
  have n1_ : Aside0 (w23.heap[gb483]? = some (.cells #[.float .f64 t480, .float .f64 t481] 28 (0, 0))) := ⟨h1_⟩
  have n2_ : Aside0 (w23.heap[gb488]? = some (.cells #[.float .f64 0, .float .f64 0] 28 (0, 0))) := ⟨h2_⟩
  have n3_ : Aside0 (w23.heap[gb489]? = some (.cells #[.float .f64 0, .float .f64 0] 28 (0, 0))) := ⟨h3_⟩
  have n4_ : Aside0 (w.heap.size ≤ gb488) := ⟨h4_⟩
  have n5_ : Aside0 (w.heap.size ≤ gb488) := ⟨h5_⟩
  have n6_ : Aside0 (gb482 ≠ gb488) := ⟨h6_⟩
  have n7_ : Aside0 (gb488 ≠ gb482) := ⟨h7_⟩
  have n8_ : Aside0 (gb483 ≠ gb488) := ⟨h8_⟩
  have n9_ : Aside0 (gb488 ≠ gb483) := ⟨h9_⟩
  have n10_ : Aside0 (gb489 ≠ gb488) := ⟨h10_⟩
  have n11_ : Aside0 (gb488 ≠ gb489) := ⟨h11_⟩
  have n12_ : Aside0 (w.heap.size ≤ gb489) := ⟨h12_⟩
  have n13_ : Aside0 (w.heap.size ≤ gb489) := ⟨h13_⟩
  have n14_ : Aside0 (gb482 ≠ gb489) := ⟨h14_⟩
  have n15_ : Aside0 (gb489 ≠ gb482) := ⟨h15_⟩
  have n16_ : Aside0 (gb483 ≠ gb489) := ⟨h16_⟩
  have n17_ : Aside0 (gb489 ≠ gb483) := ⟨h17_⟩
  have n18_ : Aside0 (impl_PhTimes.f t480 t481 t478 t479 (fun bt486 => (∃ t490, laws_sameBits.f t484 bt486.1 = some t490 ∧ (if t490 = true then (∃ t491, laws_sameBits.f t485 bt486.2 = some t491 ∧ (laws_FnPhasors.j0 k l0 (!t491))) else (laws_FnPhasors.j0 k l0 true))))) := ⟨h18_⟩
  have n19_ : Aside0 (∃ t490, laws_sameBits.f t484 t486 = some t490 ∧ (if t490 = true then (∃ t491, laws_sameBits.f t485 t487 = some t491 ∧ (laws_FnPhasors.j0 k l0 (!t491))) else (laws_FnPhasors.j0 k l0 true))) := ⟨h19_⟩
  have n20_ : Aside0 (Below w.heap.size w w23) := ⟨h20_⟩
  clear BK482
  clear BK483
  clear HB
  clear h0_ h1_ h2_ h3_ h4_ h5_ h6_ h7_ h8_ h9_ h10_ h11_ h12_ h13_ h14_ h15_ h16_ h17_ h18_ h19_ h20_
  have BK482 := n0_
  have BK483 := n1_
  have BK488 := n2_
  have BK489 := n3_
  have GW488 := n4_
  have GE488 := n5_
  have NB482_488 := n6_
  have NB488_482 := n7_
  have NB483_488 := n8_
  have NB488_483 := n9_
  have NB489_488 := n10_
  have NB488_489 := n11_
  have GW489 := n12_
  have GE489 := n13_
  have NB482_489 := n14_
  have NB489_482 := n15_
  have NB483_489 := n16_
  have NB489_483 := n17_
  have HD13 := n18_
  have HD15 := n19_
  have HB := n20_
  clear n0_ n1_ n2_ n3_ n4_ n5_ n6_ n7_ n8_ n9_ n10_ n11_ n12_ n13_ n14_ n15_ n16_ n17_ n18_ n19_ n20_
  have hHeld : w23.cell? ⟨gb482, 0, none⟩ = some (.float .f64 t478) ∧ w23.cell? ⟨gb482, 1, none⟩ = some (.float .f64 t479) ∧ w23.cell? ⟨gb483, 0, none⟩ = some (.float .f64 t480) ∧ w23.cell? ⟨gb483, 1, none⟩ = some (.float .f64 t481) := hS_
  refine norm_ (a' := ?_) ?_ ?_
  rotate_left
  ·simp only [putAll, Act.put, List.setIfInBounds_toArray, List.set_cons_zero, List.set_cons_succ]
   rfl
  refine one_ (i := 8) (N := none) #[true, true, true, true, true, true, true, true, true, false] rfl rfl (one_of HT_.out (by kernel_rfl)) (by decide) (fun K hK => ?_)
  have hs24 : w23.cell? ⟨gb488, 0, none⟩ = some (.float .f64 0) := (blk_cell BK488.out 0).trans rfl
  have hfs24 := blk_frozen BK488.out 0
  have hns24_0 := NB482_488.out
  have hns24_1 := NB483_488.out
  have hns24_3 := NB489_488.out
  have hms24_0 := NB488_482.out
  have hms24_1 := NB488_483.out
  have hms24_3 := NB488_489.out
  have hs25 : w23.cell? ⟨gb488, 1, none⟩ = some (.float .f64 0) := (blk_cell BK488.out 1).trans rfl
  have hfs25 := blk_frozen BK488.out 1
  have hns25_0 := NB482_488.out
  have hns25_1 := NB483_488.out
  have hns25_3 := NB489_488.out
  have hms25_0 := NB488_482.out
  have hms25_1 := NB488_483.out
  have hms25_3 := NB488_489.out
  refine skip_ (w1 := ?_) (by rfl) rfl ?_ ?_
  rotate_left
  ·go_simp
   rfl
  refine hK.out _ _ ⟨((cell_far (p := ⟨gb488, _, none⟩) NB482_488.out _).trans (((cell_far (p := ⟨gb488, _, none⟩) NB482_488.out _).trans (hHeld.1)))), ((cell_far (p := ⟨gb488, _, none⟩) NB482_488.out _).trans (((cell_far (p := ⟨gb488, _, none⟩) NB482_488.out _).trans (hHeld.2.1)))), ((cell_far (p := ⟨gb488, _, none⟩) NB483_488.out _).trans (((cell_far (p := ⟨gb488, _, none⟩) NB483_488.out _).trans (hHeld.2.2.1)))), ((cell_far (p := ⟨gb488, _, none⟩) NB483_488.out _).trans (((cell_far (p := ⟨gb488, _, none⟩) NB483_488.out _).trans (hHeld.2.2.2))))⟩ (fun hHeld => ?_)
  clear hK K
  refine one_ (i := 9) (N := none) #[true, true, true, true, true, true, true, true, true, true] rfl rfl (one_of HT_.out (by kernel_rfl)) (by decide) (fun K hK => ?_)
  have hs26 : w23.cell? ⟨gb489, 0, none⟩ = some (.float .f64 0) := (blk_cell BK489.out 0).trans rfl
  have hfs26 := blk_frozen BK489.out 0
  have hns26_0 := NB482_489.out
  have hns26_1 := NB483_489.out
  have hns26_2 := NB488_489.out
  have hms26_0 := NB489_482.out
  have hms26_1 := NB489_483.out
  have hms26_2 := NB489_488.out
  have hs27 : w23.cell? ⟨gb489, 1, none⟩ = some (.float .f64 0) := (blk_cell BK489.out 1).trans rfl
  have hfs27 := blk_frozen BK489.out 1
  have hns27_0 := NB482_489.out
  have hns27_1 := NB483_489.out
  have hns27_2 := NB488_489.out
  have hms27_0 := NB489_482.out
  have hms27_1 := NB489_483.out
  have hms27_2 := NB489_488.out
  refine skip_ (w1 := ?_) (by rfl) rfl ?_ ?_
  rotate_left
  ·go_simp
   rfl
  refine hK.out _ _ ⟨((cell_far (p := ⟨gb489, _, none⟩) NB482_489.out _).trans (((cell_far (p := ⟨gb489, _, none⟩) NB482_489.out _).trans (hHeld.1)))), ((cell_far (p := ⟨gb489, _, none⟩) NB482_489.out _).trans (((cell_far (p := ⟨gb489, _, none⟩) NB482_489.out _).trans (hHeld.2.1)))), ((cell_far (p := ⟨gb489, _, none⟩) NB483_489.out _).trans (((cell_far (p := ⟨gb489, _, none⟩) NB483_489.out _).trans (hHeld.2.2.1)))), ((cell_far (p := ⟨gb489, _, none⟩) NB483_489.out _).trans (((cell_far (p := ⟨gb489, _, none⟩) NB483_489.out _).trans (hHeld.2.2.2))))⟩ (fun hHeld => ?_)
  clear hK K
  refine done_ (done_of HT_.out (by kernel_rfl)) ?_
  go_upto_region 5 with (fail)
  have HC16 := HD15
  go_cut [44] (fun v44 wc => ∃ (kq : Nat) (x44_15 : Bool), v44 = .bool x44_15 ∧ Aside0 (laws_FnPhasors.j0 kq l0 x44_15) ∧ Aside0 (kq ≤ k) ∧ Aside0 (Below w.heap.size w wc))
  case first =>
   have H := HC16.out
   clear HC16
   obtain ⟨t490, A280, H⟩ := H
   replace H : (if t490 = true then (∃ t491, laws_sameBits.f t485 t487 = some t491 ∧ (laws_FnPhasors.j0 k l0 (!t491))) else (laws_FnPhasors.j0 k l0 true)) := H
   have A28 := Aside0.mk A280
   clear A280
   by_cases c29 : t490 = true
   ·subst c29
    have H1 : (∃ t491, laws_sameBits.f t485 t487 = some t491 ∧ (laws_FnPhasors.j0 k l0 (!t491))) := by rw [if_pos rfl] at H; exact H
    clear H
    have H := H1
    clear H1
    obtain ⟨t491, A300, H⟩ := H
    replace H : (laws_FnPhasors.j0 k l0 (!t491)) := H
    have A30 := Aside0.mk A300
    clear A300
    have H' := Aside0.mk H
    clear H
    have hnb31 := NB488_482.out
    have hnc31 := NB482_488.out
    have hnb32 := NB488_483.out
    have hnc32 := NB483_488.out
    have hnb33 := NB488_489.out
    have hnc33 := NB489_488.out
    have hcz34_0 : w23.cell? ⟨gb488, 0, none⟩ = some (.float .f64 0) := (blk_cell BK488.out 0).trans rfl
    have hcz34_1 : w23.cell? ⟨gb488, 1, none⟩ = some (.float .f64 0) := (blk_cell BK488.out 1).trans rfl
    have hfz34_0 := blk_frozen BK488.out 0
    have hfz34_1 := blk_frozen BK488.out 1
    have hnb35 := NB489_482.out
    have hnc35 := NB482_489.out
    have hnb36 := NB489_483.out
    have hnc36 := NB483_489.out
    have hcz37_0 : w23.cell? ⟨gb489, 0, none⟩ = some (.float .f64 0) := (blk_cell BK489.out 0).trans rfl
    have hcz37_1 : w23.cell? ⟨gb489, 1, none⟩ = some (.float .f64 0) := (blk_cell BK489.out 1).trans rfl
    have hfz37_0 := blk_frozen BK489.out 0
    have hfz37_1 := blk_frozen BK489.out 1
    go_wp2_with (first | ((with_reducible refine gate_callee (f := 40) rfl ?_); refine goesL_ (some 35) rfl rfl Try.func40 (by kernel_rfl) rfl #[.float .f64 t484, .float .f64 t486] rfl gl ?_; (with_reducible refine (laws_sameBits.calls t484 t486 true _ A28.out).mono ?_); rintro e w' ⟨rfl, ⟨nd, rfl⟩⟩; refine ⟨_, rfl, ?_⟩) | (go_at_call 40; (with_reducible refine (laws_sameBits.calls t485 t487 t491 _ A30.out).mono ?_); rintro e w' ⟨rfl, ⟨nd, rfl⟩⟩))
    go_meet
    case rel => exact ⟨_, (!t491), (by first | rfl | (simp; done) | (simp [*]; done)), H', ⟨by first | omega | exact Nat.le_refl _⟩, ⟨bw4 HB.out GE482.out GE483.out GE488.out GE489.out⟩⟩
   ·replace c29 := Bool.eq_false_iff.mpr c29
    subst c29
    have H1 : (laws_FnPhasors.j0 k l0 true) := by rw [if_neg (show ¬ (false = true) by decide)] at H; exact H
    clear H
    have H := H1
    clear H1
    have H' := Aside0.mk H
    clear H
    have hnb38 := NB488_482.out
    have hnc38 := NB482_488.out
    have hnb39 := NB488_483.out
    have hnc39 := NB483_488.out
    have hnb40 := NB488_489.out
    have hnc40 := NB489_488.out
    have hcz41_0 : w23.cell? ⟨gb488, 0, none⟩ = some (.float .f64 0) := (blk_cell BK488.out 0).trans rfl
    have hcz41_1 : w23.cell? ⟨gb488, 1, none⟩ = some (.float .f64 0) := (blk_cell BK488.out 1).trans rfl
    have hfz41_0 := blk_frozen BK488.out 0
    have hfz41_1 := blk_frozen BK488.out 1
    have hnb42 := NB489_482.out
    have hnc42 := NB482_489.out
    have hnb43 := NB489_483.out
    have hnc43 := NB483_489.out
    have hcz44_0 : w23.cell? ⟨gb489, 0, none⟩ = some (.float .f64 0) := (blk_cell BK489.out 0).trans rfl
    have hcz44_1 : w23.cell? ⟨gb489, 1, none⟩ = some (.float .f64 0) := (blk_cell BK489.out 1).trans rfl
    have hfz44_0 := blk_frozen BK489.out 0
    have hfz44_1 := blk_frozen BK489.out 1
    go_wp2_with (first | ((with_reducible refine gate_callee (f := 40) rfl ?_); refine goesL_ (some 35) rfl rfl Try.func40 (by kernel_rfl) rfl #[.float .f64 t484, .float .f64 t486] rfl gl ?_; (with_reducible refine (laws_sameBits.calls t484 t486 false _ A28.out).mono ?_); rintro e w' ⟨rfl, ⟨nd, rfl⟩⟩; refine ⟨_, rfl, ?_⟩))
    go_meet
    case rel => exact ⟨_, (true), (by first | rfl | (simp; done) | (simp [*]; done)), H', ⟨by first | omega | exact Nat.le_refl _⟩, ⟨bw4 HB.out GE482.out GE483.out GE488.out GE489.out⟩⟩
  case rest =>
   clear HC16
   (try clear c2); (try clear p2); (try clear c3); (try clear c4); (try clear c23); (try clear c29); (try clear c31); (try clear c32); (try clear c33); (try clear c35); (try clear c36); (try clear c38); (try clear c39); (try clear c40); (try clear c42); (try clear c43); (try clear hcz34_0 hcz34_1); (try clear hcz37_0 hcz37_1); (try clear hcz41_0 hcz41_1); (try clear hcz44_0 hcz44_1); (try clear hfz34_0 hfz34_1); (try clear hfz37_0 hfz37_1); (try clear hfz41_0 hfz41_1); (try clear hfz44_0 hfz44_1)
   obtain ⟨kq, x44_15, rfl, HA, HJ15, HB⟩ := hcut
   cases kq with
   | zero => exact absurd HA.out (by simp [laws_FnPhasors.j0])
   | succ kj15 =>
    have H := HA.out
    clear HA
    simp only [laws_FnPhasors.j0] at H
    by_cases c45 : x44_15 = true
    ·subst c45
     have H1 : (False) := by rw [if_pos rfl] at H; exact H
     clear H
     have H := H1
     clear H1
     exact absurd H (by first | (simp; done) | ((repeat' split) <;> simp))
    ·replace c45 := Bool.eq_false_iff.mpr c45
     subst c45
     have H1 : (spec_DrawFull.f kj15 l0 (fun bt492 => (impl_Full.f bt492.1 bt492.2 (fun bt495 => (impl_Slimmed.f bt495.1 bt495.2 (fun bt497 => (if (FloatKind.f32.format.order bt497.1 bt492.1 != some .eq) = true then (if (FloatKind.f32.format.order bt492.1 bt492.1 == some .eq) = true then (laws_FnPhasors.j1 kj15 l0 true) else (if (FloatKind.f32.format.order bt497.2 bt492.2 != some .eq) = true then (laws_FnPhasors.j1 kj15 l0 (FloatKind.f32.format.order bt492.2 bt492.2 == some .eq)) else (laws_FnPhasors.j1 kj15 l0 false))) else (if (FloatKind.f32.format.order bt497.2 bt492.2 != some .eq) = true then (laws_FnPhasors.j1 kj15 l0 (FloatKind.f32.format.order bt492.2 bt492.2 == some .eq)) else (laws_FnPhasors.j1 kj15 l0 false))))))))) := by rw [if_neg (show ¬ (false = true) by decide)] at H; exact H
     clear H
     have H := H1
     clear H1
     have HD47 := Aside0.mk H
     clear H
     go_upto_region 9 with (first | ((with_reducible refine gate_callee (f := 41) rfl ?_); refine goesL_ (some 46) rfl rfl Try.func41 (by kernel_rfl) rfl #[.slice A0 l0.length c0] rfl gl ?_; (with_reducible refine (spec_DrawFull.calls kj15 _ _ l0 _ _ ?side1 ?side2 HD47.out).mono ?_); (case side1 => exact ck (Kd.C_below HR0.out HB.out)); (case side2 => exact HC0.out); rintro e w51 ⟨t492, t493, hq_, rfl, hb⟩; refine ⟨_, rfl, ?_⟩; have HD46 := Aside0.mk hq_; clear hq_ HD47; have n0_ := Aside0.mk (below_step (bw HB.out) hb); clear HB; have HB := n0_; clear n0_; (try clear hb); (try clear hb2); (try clear hk); (try clear hi)) | ((with_reducible refine gate_dst (N := 7) rfl ?_); (try (refine gate_guard (by rfl) ?_; dsimp only)); refine box_event ?hg (N := 7) ?hd (cs := #[.float .f32 0, .float .f32 0]) (t := 30) ?hr ?_; (case hd => rfl); (case hg => rfl); (case hr => first | (go_simp; done) | (go_simp; rfl)); intro gb494 hg w52 hbox hb; have n0_ := Aside0.mk (below_step (bw HB.out) hb); have n1_ := Aside0.mk (hbox); have n2_ := Aside0.mk ((by rw [hg]; exact (below_size (bw HB.out)) : w.heap.size ≤ gb494)); have n3_ := Aside0.mk ((by rw [hg]; exact (below_size (bw HB.out)) : w.heap.size ≤ gb494)); clear HB; have HB := n0_; have BK494 := n1_; have GW494 := n2_; have GE494 := n3_; clear n0_ n1_ n2_ n3_; clear hb hbox hg; have hcz53_0 : w52.cell? ⟨gb494, 0, none⟩ = some (.float .f32 0) := (blk_cell BK494.out 0).trans rfl; have hcz53_1 : w52.cell? ⟨gb494, 1, none⟩ = some (.float .f32 0) := (blk_cell BK494.out 1).trans rfl; have hfz53_0 := blk_frozen BK494.out 0; have hfz53_1 := blk_frozen BK494.out 1) | ((with_reducible refine gate_callee (f := 16) rfl ?_); refine goesL_ (some 48) rfl rfl Try.func16 (by kernel_rfl) rfl #[.agg #[.float .f32 t492, .float .f32 t493]] rfl gl ?_; (with_reducible refine (impl_Full.calls t492 t493 _ _ HD46.out).mono ?_); rintro e w54 ⟨t495, t496, hq_, rfl, hb⟩; refine ⟨_, rfl, ?_⟩; have HD48 := Aside0.mk hq_; clear hq_ HD46; have n0_ := Aside0.mk (blk_below (g := gb494) (o := .cells #[.float .f32 t492, .float .f32 t493] 30 (0, 0)) (by (with_reducible repeat (first | refine blk_drewN ?_ _ | refine blk_drew ?_ | refine blk_alloc ?_ _)); refine blk_put (cs := #[.float .f32 t492, .float .f32 0]) ?_ 1 _ rfl; refine blk_put (cs := #[.float .f32 0, .float .f32 0]) ?_ 0 _ rfl; (with_reducible repeat (first | refine blk_drewN ?_ _ | refine blk_drew ?_ | refine blk_alloc ?_ _)); exact BK494.out) hb); have n1_ := Aside0.mk (below_step (bw1 HB.out GE494.out) hb); clear BK494; clear HB; have BK494 := n0_; have HB := n1_; clear n0_ n1_; (try clear hb); (try clear hb2); (try clear hk); (try clear hi)) | ((with_reducible refine gate_callee (f := 20) rfl ?_); refine goesL_ (some 49) rfl rfl Try.func20 (by kernel_rfl) rfl #[.agg #[.float .f64 t495, .float .f64 t496]] rfl gl ?_; (with_reducible refine (impl_Slimmed.calls t495 t496 _ _ HD48.out).mono ?_); rintro e w55 ⟨t497, t498, hq_, rfl, hb⟩; refine ⟨_, rfl, ?_⟩; have HD49 := Aside0.mk hq_; clear hq_ HD48; have n0_ := Aside0.mk (bB BK494.out hb); have n1_ := Aside0.mk (below_step (bw1 HB.out GE494.out) hb); clear BK494; clear HB; have BK494 := n0_; have HB := n1_; clear n0_ n1_; (try clear hb); (try clear hb2); (try clear hk); (try clear hi)) | ((with_reducible refine gate_dst (N := 8) rfl ?_); (try (refine gate_guard (by rfl) ?_; dsimp only)); refine box_event ?hg (N := 8) ?hd (cs := #[.float .f32 0, .float .f32 0]) (t := 30) ?hr ?_; (case hd => rfl); (case hg => rfl); (case hr => first | (go_simp; done) | (go_simp; rfl)); intro gb499 hg w56 hbox hb; have n0_ := Aside0.mk (bB BK494.out hb); have n1_ := Aside0.mk (below_step (bw1 HB.out GE494.out) hb); have n2_ := Aside0.mk (hbox); have n3_ := Aside0.mk ((by rw [hg]; exact (below_size (bw1 HB.out GE494.out)) : w.heap.size ≤ gb499)); have n4_ := Aside0.mk ((by rw [hg]; exact (below_size (bw1 HB.out GE494.out)) : w.heap.size ≤ gb499)); have n5_ := Aside0.mk ((by rw [hg]; exact Nat.ne_of_lt (bL BK494.out) : gb494 ≠ gb499)); have n6_ := Aside0.mk ((by rw [hg]; exact Nat.ne_of_gt (bL BK494.out) : gb499 ≠ gb494)); clear BK494; clear HB; have BK494 := n0_; have HB := n1_; have BK499 := n2_; have GW499 := n3_; have GE499 := n4_; have NB494_499 := n5_; have NB499_494 := n6_; clear n0_ n1_ n2_ n3_ n4_ n5_ n6_; clear hb hbox hg; have hnb57 := NB499_494.out; have hnc57 := NB494_499.out; have hcz58_0 : w56.cell? ⟨gb499, 0, none⟩ = some (.float .f32 0) := (blk_cell BK499.out 0).trans rfl; have hcz58_1 : w56.cell? ⟨gb499, 1, none⟩ = some (.float .f32 0) := (blk_cell BK499.out 1).trans rfl; have hfz58_0 := blk_frozen BK499.out 0; have hfz58_1 := blk_frozen BK499.out 1))
     have HC50 := HD49
     (try simp only [Act.put, List.setIfInBounds_toArray, List.set_cons_zero, List.set_cons_succ])
     go_cut [75] (fun v75 wc => ∃ (kq : Nat) (x75_49 : Bool), v75 = .bool x75_49 ∧ Aside0 (laws_FnPhasors.j1 kq l0 x75_49) ∧ Aside0 (kq ≤ kj15) ∧ Aside0 (Below w.heap.size w wc))
     case first =>
      have H := HC50.out
      clear HC50
      by_cases c59 : (FloatKind.f32.format.order t497 t492 != some .eq) = true
      ·rw [if_pos c59] at H
       have c59b0 : (FloatKind.f32.format.order t497 t492 != some .eq) = true := c59
       (try (have c59b1 : decide (FloatKind.f32.format.order t497 t492 = some .eq) = false := by simpa using c59))
       (try (have c59b2 : (FloatKind.f32.format.order t497 t492 == some .eq) = false := by simpa using c59))
       (try (have c59b3 : (!(FloatKind.f32.format.order t497 t492 == some .eq)) = true := by simpa using c59))
       (try (have c59b4 : ¬ (FloatKind.f32.format.order t497 t492 = some .eq) := by simpa using c59))
       clear c59
       (first | rw [c59b0] | (simp only [i64_w, i32_w]; rw [c59b0]) | rw [c59b3] | skip)
       by_cases c60 : (FloatKind.f32.format.order t492 t492 == some .eq) = true
       ·rw [if_pos c60] at H
        have c60b0 : (FloatKind.f32.format.order t492 t492 == some .eq) = true := c60
        (try (have c60b1 : decide (FloatKind.f32.format.order t492 t492 = some .eq) = true := by simpa using c60))
        (try (have c60b2 : (FloatKind.f32.format.order t492 t492 == some .eq) = true := by simpa using c60))
        (try (have c60b3 : (!(FloatKind.f32.format.order t492 t492 == some .eq)) = false := by simpa using c60))
        (try (have c60b4 : FloatKind.f32.format.order t492 t492 = some .eq := by simpa using c60))
        clear c60
        have H' := Aside0.mk H
        clear H
        have hnb61 := NB499_494.out
        have hnc61 := NB494_499.out
        have hcz62_0 : w56.cell? ⟨gb499, 0, none⟩ = some (.float .f32 0) := (blk_cell BK499.out 0).trans rfl
        have hcz62_1 : w56.cell? ⟨gb499, 1, none⟩ = some (.float .f32 0) := (blk_cell BK499.out 1).trans rfl
        have hfz62_0 := blk_frozen BK499.out 0
        have hfz62_1 := blk_frozen BK499.out 1
        have hcz63_0 : w56.cell? ⟨gb494, 0, none⟩ = some (.float .f32 t492) := (blk_cell BK494.out 0).trans rfl
        have hcz63_1 : w56.cell? ⟨gb494, 1, none⟩ = some (.float .f32 t493) := (blk_cell BK494.out 1).trans rfl
        have hfz63_0 := blk_frozen BK494.out 0
        have hfz63_1 := blk_frozen BK494.out 1
        go_wp2
        go_meet
        case rel => exact ⟨_, (true), (by first | rfl | (simp; done) | (simp [*]; done)), H', ⟨by have := HJ15.out; first | omega | exact Nat.le_refl _⟩, ⟨bw2 HB.out GE494.out GE499.out⟩⟩
       ·rw [if_neg c60] at H
        have c60b0 : (FloatKind.f32.format.order t492 t492 == some .eq) = false := by simpa using c60
        (try (have c60b1 : decide (FloatKind.f32.format.order t492 t492 = some .eq) = false := by simpa using c60))
        (try (have c60b2 : (FloatKind.f32.format.order t492 t492 == some .eq) = false := by simpa using c60))
        (try (have c60b3 : (!(FloatKind.f32.format.order t492 t492 == some .eq)) = true := by simpa using c60))
        (try (have c60b4 : ¬ (FloatKind.f32.format.order t492 t492 = some .eq) := by simpa using c60))
        clear c60
        by_cases c64 : (FloatKind.f32.format.order t498 t493 != some .eq) = true
        ·rw [if_pos c64] at H
         have c64b0 : (FloatKind.f32.format.order t498 t493 != some .eq) = true := c64
         (try (have c64b1 : decide (FloatKind.f32.format.order t498 t493 = some .eq) = false := by simpa using c64))
         (try (have c64b2 : (FloatKind.f32.format.order t498 t493 == some .eq) = false := by simpa using c64))
         (try (have c64b3 : (!(FloatKind.f32.format.order t498 t493 == some .eq)) = true := by simpa using c64))
         (try (have c64b4 : ¬ (FloatKind.f32.format.order t498 t493 = some .eq) := by simpa using c64))
         clear c64
         have H' := Aside0.mk H
         clear H
         have hnb65 := NB499_494.out
         have hnc65 := NB494_499.out
         have hcz66_0 : w56.cell? ⟨gb499, 0, none⟩ = some (.float .f32 0) := (blk_cell BK499.out 0).trans rfl
         have hcz66_1 : w56.cell? ⟨gb499, 1, none⟩ = some (.float .f32 0) := (blk_cell BK499.out 1).trans rfl
         have hfz66_0 := blk_frozen BK499.out 0
         have hfz66_1 := blk_frozen BK499.out 1
         have hcz67_0 : w56.cell? ⟨gb494, 0, none⟩ = some (.float .f32 t492) := (blk_cell BK494.out 0).trans rfl
         have hcz67_1 : w56.cell? ⟨gb494, 1, none⟩ = some (.float .f32 t493) := (blk_cell BK494.out 1).trans rfl
         have hfz67_0 := blk_frozen BK494.out 0
         have hfz67_1 := blk_frozen BK494.out 1
         go_wp2
         go_meet
         case rel => exact ⟨_, ((FloatKind.f32.format.order t493 t493 == some .eq)), (by first | rfl | (simp; done) | (simp [*]; done)), H', ⟨by have := HJ15.out; first | omega | exact Nat.le_refl _⟩, ⟨bw2 HB.out GE494.out GE499.out⟩⟩
        ·rw [if_neg c64] at H
         have c64b0 : (FloatKind.f32.format.order t498 t493 != some .eq) = false := by simpa using c64
         (try (have c64b1 : decide (FloatKind.f32.format.order t498 t493 = some .eq) = true := by simpa using c64))
         (try (have c64b2 : (FloatKind.f32.format.order t498 t493 == some .eq) = true := by simpa using c64))
         (try (have c64b3 : (!(FloatKind.f32.format.order t498 t493 == some .eq)) = false := by simpa using c64))
         (try (have c64b4 : FloatKind.f32.format.order t498 t493 = some .eq := by simpa using c64))
         clear c64
         have H' := Aside0.mk H
         clear H
         have hnb68 := NB499_494.out
         have hnc68 := NB494_499.out
         have hcz69_0 : w56.cell? ⟨gb499, 0, none⟩ = some (.float .f32 0) := (blk_cell BK499.out 0).trans rfl
         have hcz69_1 : w56.cell? ⟨gb499, 1, none⟩ = some (.float .f32 0) := (blk_cell BK499.out 1).trans rfl
         have hfz69_0 := blk_frozen BK499.out 0
         have hfz69_1 := blk_frozen BK499.out 1
         have hcz70_0 : w56.cell? ⟨gb494, 0, none⟩ = some (.float .f32 t492) := (blk_cell BK494.out 0).trans rfl
         have hcz70_1 : w56.cell? ⟨gb494, 1, none⟩ = some (.float .f32 t493) := (blk_cell BK494.out 1).trans rfl
         have hfz70_0 := blk_frozen BK494.out 0
         have hfz70_1 := blk_frozen BK494.out 1
         go_wp2
         go_meet
         case rel => exact ⟨_, (false), (by first | rfl | (simp; done) | (simp [*]; done)), H', ⟨by have := HJ15.out; first | omega | exact Nat.le_refl _⟩, ⟨bw2 HB.out GE494.out GE499.out⟩⟩
      ·rw [if_neg c59] at H
       have c59b0 : (FloatKind.f32.format.order t497 t492 != some .eq) = false := by simpa using c59
       (try (have c59b1 : decide (FloatKind.f32.format.order t497 t492 = some .eq) = true := by simpa using c59))
       (try (have c59b2 : (FloatKind.f32.format.order t497 t492 == some .eq) = true := by simpa using c59))
       (try (have c59b3 : (!(FloatKind.f32.format.order t497 t492 == some .eq)) = false := by simpa using c59))
       (try (have c59b4 : FloatKind.f32.format.order t497 t492 = some .eq := by simpa using c59))
       clear c59
       (first | rw [c59b0] | (simp only [i64_w, i32_w]; rw [c59b0]) | rw [c59b3] | skip)
       by_cases c71 : (FloatKind.f32.format.order t498 t493 != some .eq) = true
       ·rw [if_pos c71] at H
        have c71b0 : (FloatKind.f32.format.order t498 t493 != some .eq) = true := c71
        (try (have c71b1 : decide (FloatKind.f32.format.order t498 t493 = some .eq) = false := by simpa using c71))
        (try (have c71b2 : (FloatKind.f32.format.order t498 t493 == some .eq) = false := by simpa using c71))
        (try (have c71b3 : (!(FloatKind.f32.format.order t498 t493 == some .eq)) = true := by simpa using c71))
        (try (have c71b4 : ¬ (FloatKind.f32.format.order t498 t493 = some .eq) := by simpa using c71))
        clear c71
        have H' := Aside0.mk H
        clear H
        have hnb72 := NB499_494.out
        have hnc72 := NB494_499.out
        have hcz73_0 : w56.cell? ⟨gb499, 0, none⟩ = some (.float .f32 0) := (blk_cell BK499.out 0).trans rfl
        have hcz73_1 : w56.cell? ⟨gb499, 1, none⟩ = some (.float .f32 0) := (blk_cell BK499.out 1).trans rfl
        have hfz73_0 := blk_frozen BK499.out 0
        have hfz73_1 := blk_frozen BK499.out 1
        have hcz74_0 : w56.cell? ⟨gb494, 0, none⟩ = some (.float .f32 t492) := (blk_cell BK494.out 0).trans rfl
        have hcz74_1 : w56.cell? ⟨gb494, 1, none⟩ = some (.float .f32 t493) := (blk_cell BK494.out 1).trans rfl
        have hfz74_0 := blk_frozen BK494.out 0
        have hfz74_1 := blk_frozen BK494.out 1
        go_wp2
        go_meet
        case rel => exact ⟨_, ((FloatKind.f32.format.order t493 t493 == some .eq)), (by first | rfl | (simp; done) | (simp [*]; done)), H', ⟨by have := HJ15.out; first | omega | exact Nat.le_refl _⟩, ⟨bw2 HB.out GE494.out GE499.out⟩⟩
       ·rw [if_neg c71] at H
        have c71b0 : (FloatKind.f32.format.order t498 t493 != some .eq) = false := by simpa using c71
        (try (have c71b1 : decide (FloatKind.f32.format.order t498 t493 = some .eq) = true := by simpa using c71))
        (try (have c71b2 : (FloatKind.f32.format.order t498 t493 == some .eq) = true := by simpa using c71))
        (try (have c71b3 : (!(FloatKind.f32.format.order t498 t493 == some .eq)) = false := by simpa using c71))
        (try (have c71b4 : FloatKind.f32.format.order t498 t493 = some .eq := by simpa using c71))
        clear c71
        have H' := Aside0.mk H
        clear H
        have hnb75 := NB499_494.out
        have hnc75 := NB494_499.out
        have hcz76_0 : w56.cell? ⟨gb499, 0, none⟩ = some (.float .f32 0) := (blk_cell BK499.out 0).trans rfl
        have hcz76_1 : w56.cell? ⟨gb499, 1, none⟩ = some (.float .f32 0) := (blk_cell BK499.out 1).trans rfl
        have hfz76_0 := blk_frozen BK499.out 0
        have hfz76_1 := blk_frozen BK499.out 1
        have hcz77_0 : w56.cell? ⟨gb494, 0, none⟩ = some (.float .f32 t492) := (blk_cell BK494.out 0).trans rfl
        have hcz77_1 : w56.cell? ⟨gb494, 1, none⟩ = some (.float .f32 t493) := (blk_cell BK494.out 1).trans rfl
        have hfz77_0 := blk_frozen BK494.out 0
        have hfz77_1 := blk_frozen BK494.out 1
        go_wp2
        go_meet
        case rel => exact ⟨_, (false), (by first | rfl | (simp; done) | (simp [*]; done)), H', ⟨by have := HJ15.out; first | omega | exact Nat.le_refl _⟩, ⟨bw2 HB.out GE494.out GE499.out⟩⟩
     case rest =>
      clear HC50
      (try clear c1); (try clear c2); (try clear p2); (try clear c3); (try clear c4); (try clear c5); (try clear c6); (try clear c7); (try clear c16); (try clear c20); (try clear c23); (try clear c29); (try clear c31); (try clear c32); (try clear c33); (try clear c35); (try clear c36); (try clear c38); (try clear c39); (try clear c40); (try clear c41); (try clear c42); (try clear c43); (try clear c45); (try clear c57); (try clear c59); (try clear c59b0); (try clear c59b1); (try clear c59b2); (try clear c60); (try clear c60b0); (try clear c60b1); (try clear c60b2); (try clear c61); (try clear c64); (try clear c64b0); (try clear c64b1); (try clear c64b2); (try clear c65); (try clear c68); (try clear c71); (try clear c71b0); (try clear c71b1); (try clear c71b2); (try clear c72); (try clear c75); (try clear hcz34_0 hcz34_1); (try clear hcz37_0 hcz37_1); (try clear hcz41_0 hcz41_1); (try clear hcz44_0 hcz44_1); (try clear hcz53_0 hcz53_1); (try clear hcz58_0 hcz58_1); (try clear hcz62_0 hcz62_1); (try clear hcz63_0 hcz63_1); (try clear hcz66_0 hcz66_1); (try clear hcz67_0 hcz67_1); (try clear hcz69_0 hcz69_1); (try clear hcz70_0 hcz70_1); (try clear hcz73_0 hcz73_1); (try clear hcz74_0 hcz74_1); (try clear hcz76_0 hcz76_1); (try clear hcz77_0 hcz77_1); (try clear hfz34_0 hfz34_1); (try clear hfz37_0 hfz37_1); (try clear hfz41_0 hfz41_1); (try clear hfz44_0 hfz44_1); (try clear hfz53_0 hfz53_1); (try clear hfz58_0 hfz58_1); (try clear hfz62_0 hfz62_1); (try clear hfz63_0 hfz63_1); (try clear hfz66_0 hfz66_1); (try clear hfz67_0 hfz67_1); (try clear hfz69_0 hfz69_1); (try clear hfz70_0 hfz70_1); (try clear hfz73_0 hfz73_1); (try clear hfz74_0 hfz74_1); (try clear hfz76_0 hfz76_1); (try clear hfz77_0 hfz77_1); (try clear p2)
      obtain ⟨kq, x75_49, rfl, HA, HJ49, HB⟩ := hcut
      cases kq with
      | zero => exact absurd HA.out (by simp [laws_FnPhasors.j1])
      | succ kj49 =>
       have H := HA.out
       clear HA
       simp only [laws_FnPhasors.j1] at H
       by_cases c78 : x75_49 = true
       ·subst c78
        have H1 : (False) := by rw [if_pos rfl] at H; exact H
        clear H
        have H := H1
        clear H1
        exact absurd H (by first | (simp; done) | ((repeat' split) <;> simp))
       ·replace c78 := Bool.eq_false_iff.mpr c78
        subst c78
        have H1 : (∃ t500, laws_at.f l0 0 = some t500 ∧ (∃ t501, laws_at.f l0 1 = some t501 ∧ (∃ y503 : List (S28), y503 = (([(⟨4607182418800017408, 0⟩ : S28), (⟨4611686018427387904, 0⟩ : S28), (⟨0, 4607182418800017408⟩ : S28), (⟨13839561654909534208, 0⟩ : S28), (⟨0, 13835058055282163712⟩ : S28), (⟨4607182418800017408, 4607182418800017408⟩ : S28)] : List (S28))) ∧ (∃ t506, laws_at.f l0 2 = some t506 ∧ (if (y503.length : Int) = 0 then (False) else (if 0 ≤ (Int.tmod t506 (y503.length : Int)) then (if (Int.tmod t506 (y503.length : Int)) < (y503.length : Int) then (impl_PhTimes.f (floatOfInt .f64 (wrap64 (t500 - 128))) (floatOfInt .f64 (wrap64 (t501 - 128))) ((rd_T28 y503 (Int.tmod t506 (y503.length : Int))).f0) ((rd_T28 y503 (Int.tmod t506 (y503.length : Int))).f1) (fun bt509 => (impl_PhOver.f kj49 bt509.1 bt509.2 ((rd_T28 y503 (Int.tmod t506 (y503.length : Int))).f0) ((rd_T28 y503 (Int.tmod t506 (y503.length : Int))).f1) (fun bt511 => (impl_PhOver.f kj49 (floatOfInt .f64 (wrap64 (t500 - 128))) (floatOfInt .f64 (wrap64 (t501 - 128))) 0 0 (fun bt515 => (impl_TurnAll.f kj49 (([(⟨floatOfInt .f64 (wrap64 (t500 - 128)), floatOfInt .f64 (wrap64 (t501 - 128))⟩ : S28)] : List (S28))) (([(⟨5, 0, 0, (⟨0, 0⟩ : S28)⟩ : S56), (⟨5, 0, 0, (⟨0, 0⟩ : S28)⟩ : S56)] : List (S56))) (fun bt525 => (if bt511.2.2 = true then (if bt515.2.2 = true then (False) else (∃ t535, impl_AlikePh.f kj49 (([(⟨bt511.1, bt511.2.1⟩ : S28)] : List (S28))) (([(⟨floatOfInt .f64 (wrap64 (t500 - 128)), floatOfInt .f64 (wrap64 (t501 - 128))⟩ : S28)] : List (S28))) = some t535 ∧ (if t535 = true then (if bt525.2 = true then (∃ t539, impl_AlikePh.f kj49 bt525.1 (([(⟨floatOfInt .f64 (wrap64 (t500 - 128)), floatOfInt .f64 (wrap64 (t501 - 128))⟩ : S28)] : List (S28))) = some t539 ∧ (t539 = true)) else (False)) else (False)))) else (False)))))))))) else (False)) else (False))))))) := by rw [if_neg (show ¬ (false = true) by decide)] at H; exact H
        clear H
        have H := H1
        clear H1
        obtain ⟨t500, A790, H⟩ := H
        replace H : (∃ t501, laws_at.f l0 1 = some t501 ∧ (∃ y503 : List (S28), y503 = (([(⟨4607182418800017408, 0⟩ : S28), (⟨4611686018427387904, 0⟩ : S28), (⟨0, 4607182418800017408⟩ : S28), (⟨13839561654909534208, 0⟩ : S28), (⟨0, 13835058055282163712⟩ : S28), (⟨4607182418800017408, 4607182418800017408⟩ : S28)] : List (S28))) ∧ (∃ t506, laws_at.f l0 2 = some t506 ∧ (if (y503.length : Int) = 0 then (False) else (if 0 ≤ (Int.tmod t506 (y503.length : Int)) then (if (Int.tmod t506 (y503.length : Int)) < (y503.length : Int) then (impl_PhTimes.f (floatOfInt .f64 (wrap64 (t500 - 128))) (floatOfInt .f64 (wrap64 (t501 - 128))) ((rd_T28 y503 (Int.tmod t506 (y503.length : Int))).f0) ((rd_T28 y503 (Int.tmod t506 (y503.length : Int))).f1) (fun bt509 => (impl_PhOver.f kj49 bt509.1 bt509.2 ((rd_T28 y503 (Int.tmod t506 (y503.length : Int))).f0) ((rd_T28 y503 (Int.tmod t506 (y503.length : Int))).f1) (fun bt511 => (impl_PhOver.f kj49 (floatOfInt .f64 (wrap64 (t500 - 128))) (floatOfInt .f64 (wrap64 (t501 - 128))) 0 0 (fun bt515 => (impl_TurnAll.f kj49 (([(⟨floatOfInt .f64 (wrap64 (t500 - 128)), floatOfInt .f64 (wrap64 (t501 - 128))⟩ : S28)] : List (S28))) (([(⟨5, 0, 0, (⟨0, 0⟩ : S28)⟩ : S56), (⟨5, 0, 0, (⟨0, 0⟩ : S28)⟩ : S56)] : List (S56))) (fun bt525 => (if bt511.2.2 = true then (if bt515.2.2 = true then (False) else (∃ t535, impl_AlikePh.f kj49 (([(⟨bt511.1, bt511.2.1⟩ : S28)] : List (S28))) (([(⟨floatOfInt .f64 (wrap64 (t500 - 128)), floatOfInt .f64 (wrap64 (t501 - 128))⟩ : S28)] : List (S28))) = some t535 ∧ (if t535 = true then (if bt525.2 = true then (∃ t539, impl_AlikePh.f kj49 bt525.1 (([(⟨floatOfInt .f64 (wrap64 (t500 - 128)), floatOfInt .f64 (wrap64 (t501 - 128))⟩ : S28)] : List (S28))) = some t539 ∧ (t539 = true)) else (False)) else (False)))) else (False)))))))))) else (False)) else (False)))))) := H
        have A79 := Aside0.mk A790
        clear A790
        obtain ⟨t501, A800, H⟩ := H
        replace H : (∃ y503 : List (S28), y503 = (([(⟨4607182418800017408, 0⟩ : S28), (⟨4611686018427387904, 0⟩ : S28), (⟨0, 4607182418800017408⟩ : S28), (⟨13839561654909534208, 0⟩ : S28), (⟨0, 13835058055282163712⟩ : S28), (⟨4607182418800017408, 4607182418800017408⟩ : S28)] : List (S28))) ∧ (∃ t506, laws_at.f l0 2 = some t506 ∧ (if (y503.length : Int) = 0 then (False) else (if 0 ≤ (Int.tmod t506 (y503.length : Int)) then (if (Int.tmod t506 (y503.length : Int)) < (y503.length : Int) then (impl_PhTimes.f (floatOfInt .f64 (wrap64 (t500 - 128))) (floatOfInt .f64 (wrap64 (t501 - 128))) ((rd_T28 y503 (Int.tmod t506 (y503.length : Int))).f0) ((rd_T28 y503 (Int.tmod t506 (y503.length : Int))).f1) (fun bt509 => (impl_PhOver.f kj49 bt509.1 bt509.2 ((rd_T28 y503 (Int.tmod t506 (y503.length : Int))).f0) ((rd_T28 y503 (Int.tmod t506 (y503.length : Int))).f1) (fun bt511 => (impl_PhOver.f kj49 (floatOfInt .f64 (wrap64 (t500 - 128))) (floatOfInt .f64 (wrap64 (t501 - 128))) 0 0 (fun bt515 => (impl_TurnAll.f kj49 (([(⟨floatOfInt .f64 (wrap64 (t500 - 128)), floatOfInt .f64 (wrap64 (t501 - 128))⟩ : S28)] : List (S28))) (([(⟨5, 0, 0, (⟨0, 0⟩ : S28)⟩ : S56), (⟨5, 0, 0, (⟨0, 0⟩ : S28)⟩ : S56)] : List (S56))) (fun bt525 => (if bt511.2.2 = true then (if bt515.2.2 = true then (False) else (∃ t535, impl_AlikePh.f kj49 (([(⟨bt511.1, bt511.2.1⟩ : S28)] : List (S28))) (([(⟨floatOfInt .f64 (wrap64 (t500 - 128)), floatOfInt .f64 (wrap64 (t501 - 128))⟩ : S28)] : List (S28))) = some t535 ∧ (if t535 = true then (if bt525.2 = true then (∃ t539, impl_AlikePh.f kj49 bt525.1 (([(⟨floatOfInt .f64 (wrap64 (t500 - 128)), floatOfInt .f64 (wrap64 (t501 - 128))⟩ : S28)] : List (S28))) = some t539 ∧ (t539 = true)) else (False)) else (False)))) else (False)))))))))) else (False)) else (False))))) := H
        have A80 := Aside0.mk A800
        clear A800
        obtain ⟨y503, hy503⟩ : ∃ y_ : List (S28), y_ = (([(⟨4607182418800017408, 0⟩ : S28), (⟨4611686018427387904, 0⟩ : S28), (⟨0, 4607182418800017408⟩ : S28), (⟨13839561654909534208, 0⟩ : S28), (⟨0, 13835058055282163712⟩ : S28), (⟨4607182418800017408, 4607182418800017408⟩ : S28)] : List (S28))) := ⟨_, rfl⟩
        replace H : (∃ t506, laws_at.f l0 2 = some t506 ∧ (if (y503.length : Int) = 0 then (False) else (if 0 ≤ (Int.tmod t506 (y503.length : Int)) then (if (Int.tmod t506 (y503.length : Int)) < (y503.length : Int) then (impl_PhTimes.f (floatOfInt .f64 (wrap64 (t500 - 128))) (floatOfInt .f64 (wrap64 (t501 - 128))) ((rd_T28 y503 (Int.tmod t506 (y503.length : Int))).f0) ((rd_T28 y503 (Int.tmod t506 (y503.length : Int))).f1) (fun bt509 => (impl_PhOver.f kj49 bt509.1 bt509.2 ((rd_T28 y503 (Int.tmod t506 (y503.length : Int))).f0) ((rd_T28 y503 (Int.tmod t506 (y503.length : Int))).f1) (fun bt511 => (impl_PhOver.f kj49 (floatOfInt .f64 (wrap64 (t500 - 128))) (floatOfInt .f64 (wrap64 (t501 - 128))) 0 0 (fun bt515 => (impl_TurnAll.f kj49 (([(⟨floatOfInt .f64 (wrap64 (t500 - 128)), floatOfInt .f64 (wrap64 (t501 - 128))⟩ : S28)] : List (S28))) (([(⟨5, 0, 0, (⟨0, 0⟩ : S28)⟩ : S56), (⟨5, 0, 0, (⟨0, 0⟩ : S28)⟩ : S56)] : List (S56))) (fun bt525 => (if bt511.2.2 = true then (if bt515.2.2 = true then (False) else (∃ t535, impl_AlikePh.f kj49 (([(⟨bt511.1, bt511.2.1⟩ : S28)] : List (S28))) (([(⟨floatOfInt .f64 (wrap64 (t500 - 128)), floatOfInt .f64 (wrap64 (t501 - 128))⟩ : S28)] : List (S28))) = some t535 ∧ (if t535 = true then (if bt525.2 = true then (∃ t539, impl_AlikePh.f kj49 bt525.1 (([(⟨floatOfInt .f64 (wrap64 (t500 - 128)), floatOfInt .f64 (wrap64 (t501 - 128))⟩ : S28)] : List (S28))) = some t539 ∧ (t539 = true)) else (False)) else (False)))) else (False)))))))))) else (False)) else (False)))) := by first | (rw [hy503]; with_reducible exact H) | (obtain ⟨_, e_, H2_⟩ := H; subst e_; rw [hy503]; exact H2_) | with_reducible exact H | (rw [hy503]; exact H) | exact H
        have Ny503 := Aside0.mk hy503
        clear hy503
        obtain ⟨t506, A810, H⟩ := H
        replace H : (if (y503.length : Int) = 0 then (False) else (if 0 ≤ (Int.tmod t506 (y503.length : Int)) then (if (Int.tmod t506 (y503.length : Int)) < (y503.length : Int) then (impl_PhTimes.f (floatOfInt .f64 (wrap64 (t500 - 128))) (floatOfInt .f64 (wrap64 (t501 - 128))) ((rd_T28 y503 (Int.tmod t506 (y503.length : Int))).f0) ((rd_T28 y503 (Int.tmod t506 (y503.length : Int))).f1) (fun bt509 => (impl_PhOver.f kj49 bt509.1 bt509.2 ((rd_T28 y503 (Int.tmod t506 (y503.length : Int))).f0) ((rd_T28 y503 (Int.tmod t506 (y503.length : Int))).f1) (fun bt511 => (impl_PhOver.f kj49 (floatOfInt .f64 (wrap64 (t500 - 128))) (floatOfInt .f64 (wrap64 (t501 - 128))) 0 0 (fun bt515 => (impl_TurnAll.f kj49 (([(⟨floatOfInt .f64 (wrap64 (t500 - 128)), floatOfInt .f64 (wrap64 (t501 - 128))⟩ : S28)] : List (S28))) (([(⟨5, 0, 0, (⟨0, 0⟩ : S28)⟩ : S56), (⟨5, 0, 0, (⟨0, 0⟩ : S28)⟩ : S56)] : List (S56))) (fun bt525 => (if bt511.2.2 = true then (if bt515.2.2 = true then (False) else (∃ t535, impl_AlikePh.f kj49 (([(⟨bt511.1, bt511.2.1⟩ : S28)] : List (S28))) (([(⟨floatOfInt .f64 (wrap64 (t500 - 128)), floatOfInt .f64 (wrap64 (t501 - 128))⟩ : S28)] : List (S28))) = some t535 ∧ (if t535 = true then (if bt525.2 = true then (∃ t539, impl_AlikePh.f kj49 bt525.1 (([(⟨floatOfInt .f64 (wrap64 (t500 - 128)), floatOfInt .f64 (wrap64 (t501 - 128))⟩ : S28)] : List (S28))) = some t539 ∧ (t539 = true)) else (False)) else (False)))) else (False)))))))))) else (False)) else (False))) := H
        have A81 := Aside0.mk A810
        clear A810
        by_cases c82 : (y503.length : Int) = 0
        ·rw [if_pos c82] at H
         exact absurd H (by simp)
        ·rw [if_neg c82] at H
         have c82b0 : ((y503.length : Int) == 0) = false := beq_eq_false_iff_ne.mpr c82
         have c82b1 : ((y503.length : Int) != 0) = true := bne_iff_ne.mpr c82
         have c82b2 : ¬ (y503 = []) := fun h_ => c82 (by rw [h_]; rfl)
         obtain ⟨ji83, hji83⟩ : ∃ j_ : Int, (Int.tmod t506 (y503.length : Int)) = j_ := ⟨_, rfl⟩
         replace H : (if 0 ≤ (ji83) then (if (ji83) < (y503.length : Int) then (impl_PhTimes.f (floatOfInt .f64 (wrap64 (t500 - 128))) (floatOfInt .f64 (wrap64 (t501 - 128))) ((rd_T28 y503 (ji83)).f0) ((rd_T28 y503 (ji83)).f1) (fun bt509 => (impl_PhOver.f kj49 bt509.1 bt509.2 ((rd_T28 y503 (ji83)).f0) ((rd_T28 y503 (ji83)).f1) (fun bt511 => (impl_PhOver.f kj49 (floatOfInt .f64 (wrap64 (t500 - 128))) (floatOfInt .f64 (wrap64 (t501 - 128))) 0 0 (fun bt515 => (impl_TurnAll.f kj49 (([(⟨floatOfInt .f64 (wrap64 (t500 - 128)), floatOfInt .f64 (wrap64 (t501 - 128))⟩ : S28)] : List (S28))) (([(⟨5, 0, 0, (⟨0, 0⟩ : S28)⟩ : S56), (⟨5, 0, 0, (⟨0, 0⟩ : S28)⟩ : S56)] : List (S56))) (fun bt525 => (if bt511.2.2 = true then (if bt515.2.2 = true then (False) else (∃ t535, impl_AlikePh.f kj49 (([(⟨bt511.1, bt511.2.1⟩ : S28)] : List (S28))) (([(⟨floatOfInt .f64 (wrap64 (t500 - 128)), floatOfInt .f64 (wrap64 (t501 - 128))⟩ : S28)] : List (S28))) = some t535 ∧ (if t535 = true then (if bt525.2 = true then (∃ t539, impl_AlikePh.f kj49 bt525.1 (([(⟨floatOfInt .f64 (wrap64 (t500 - 128)), floatOfInt .f64 (wrap64 (t501 - 128))⟩ : S28)] : List (S28))) = some t539 ∧ (t539 = true)) else (False)) else (False)))) else (False)))))))))) else (False)) else (False)) := by first | (rw [hji83] at H; exact H) | (simp only [hji83] at H ⊢; exact H)
         (try rw [hji83] at A79)
         (try rw [hji83] at A80)
         (try rw [hji83] at A81)
         by_cases c84 : 0 ≤ (ji83)
         ·rw [if_pos c84] at H
          have c84b0 : decide (0 ≤ (ji83)) = true := decide_eq_true c84
          clear c84
          by_cases c85 : (ji83) < (y503.length : Int)
          ·rw [if_pos c85] at H
           have c85b0 : decide ((ji83) < (y503.length : Int)) = true := decide_eq_true c85
           clear c85
           have HD87 := Aside0.mk H
           clear H
           try go_wp2_with (first | ((with_reducible refine gate_callee (f := 42) rfl ?_); refine goesL_ (some 77) rfl rfl Try.func42 (by kernel_rfl) rfl #[.slice A0 l0.length c0, .int .i64 0] rfl gl ?_; (with_reducible refine (laws_at.calls _ _ l0 0 t500 _ ?side1 ?side2 A79.out).mono ?_); (case side1 => exact ck (Kd.C_below HR0.out HB.out)); (case side2 => exact HC0.out); rintro e w' ⟨rfl, ⟨nd, rfl⟩⟩; refine ⟨_, rfl, ?_⟩; (try (rw [drewN_self wc]; generalize hq_ : World.drewN wc _ = wc; have n0_ : Aside0 (Below w.heap.size w wc) := ⟨by rw [← hq_]; exact (bw HB.out)⟩; clear HB hq_; have HB := n0_; clear n0_))) | ((with_reducible refine gate_callee (f := 42) rfl ?_); refine goesL_ (some 81) rfl rfl Try.func42 (by kernel_rfl) rfl #[.slice A0 l0.length c0, .int .i64 1] rfl gl ?_; (with_reducible refine (laws_at.calls _ _ l0 1 t501 _ ?side1 ?side2 A80.out).mono ?_); (case side1 => exact ck (Kd.C_below HR0.out HB.out)); (case side2 => exact HC0.out); rintro e w' ⟨rfl, ⟨nd, rfl⟩⟩; refine ⟨_, rfl, ?_⟩; (try (rw [drewN_self wc]; generalize hq_ : World.drewN wc _ = wc; have n0_ : Aside0 (Below w.heap.size w wc) := ⟨by rw [← hq_]; exact (bw HB.out)⟩; clear HB hq_; have HB := n0_; clear n0_))) | ((with_reducible refine gate_dst (N := 9) rfl ?_); (try (refine gate_guard (by rfl) ?_; dsimp only)); refine box_event ?hg (N := 9) ?hd (cs := #[.float .f64 0, .float .f64 0]) (t := 28) ?hr ?_; (case hd => rfl); (case hg => rfl); (case hr => first | (go_simp; done) | (go_simp; rfl)); intro gb502 hg w93 hbox hb; have n0_ := Aside0.mk (below_step (bw HB.out) hb); have n1_ := Aside0.mk (hbox); have n2_ := Aside0.mk ((by rw [hg]; exact (below_size (bw HB.out)) : w.heap.size ≤ gb502)); have n3_ := Aside0.mk ((by rw [hg]; exact (below_size (bw HB.out)) : w.heap.size ≤ gb502)); clear HB; have HB := n0_; have BK502 := n1_; have GW502 := n2_; have GE502 := n3_; clear n0_ n1_ n2_ n3_; clear hb hbox hg; have hcz94_0 : w93.cell? ⟨gb502, 0, none⟩ = some (.float .f64 0) := (blk_cell BK502.out 0).trans rfl; have hcz94_1 : w93.cell? ⟨gb502, 1, none⟩ = some (.float .f64 0) := (blk_cell BK502.out 1).trans rfl; have hfz94_0 := blk_frozen BK502.out 0; have hfz94_1 := blk_frozen BK502.out 1) | ((with_reducible refine gate_dst (N := 91) rfl ?_); (try (refine gate_guard (by rfl) ?_; dsimp only)); refine Kd.R_lit k28 _ 28 ?hg (N := 91) ?hd (xs := ([(⟨4607182418800017408, 0⟩ : S28), (⟨4611686018427387904, 0⟩ : S28), (⟨0, 4607182418800017408⟩ : S28), (⟨13839561654909534208, 0⟩ : S28), (⟨0, 13835058055282163712⟩ : S28), (⟨4607182418800017408, 4607182418800017408⟩ : S28)] : List (S28))) (inner := [.float .f64 4607182418800017408, .float .f64 0, .float .f64 4611686018427387904, .float .f64 0, .float .f64 0, .float .f64 4607182418800017408, .float .f64 13839561654909534208, .float .f64 0, .float .f64 0, .float .f64 13835058055282163712, .float .f64 4607182418800017408, .float .f64 4607182418800017408]) (ok := fun _ => True) (okp := fun _ => True) ?hr ?hp (fun _ hk => hk) trivial (Below.refl _ _) (Nat.le_refl _) (by simp) ?_; (case hd => rfl); (case hg => rfl); (case hr => first | (go_simp; done) | (go_simp; rfl)); (case hp => exact (Reps.c2 (show Kd.M k28 _ _ _ (⟨4607182418800017408, 0⟩ : S28) [.float .f64 4607182418800017408, .float .f64 0] from (k28_mkM _ _ _ (⟨4607182418800017408, 0⟩ : S28) )) (Reps.c2 (show Kd.M k28 _ _ _ (⟨4611686018427387904, 0⟩ : S28) [.float .f64 4611686018427387904, .float .f64 0] from (k28_mkM _ _ _ (⟨4611686018427387904, 0⟩ : S28) )) (Reps.c2 (show Kd.M k28 _ _ _ (⟨0, 4607182418800017408⟩ : S28) [.float .f64 0, .float .f64 4607182418800017408] from (k28_mkM _ _ _ (⟨0, 4607182418800017408⟩ : S28) )) (Reps.c2 (show Kd.M k28 _ _ _ (⟨13839561654909534208, 0⟩ : S28) [.float .f64 13839561654909534208, .float .f64 0] from (k28_mkM _ _ _ (⟨13839561654909534208, 0⟩ : S28) )) (Reps.c2 (show Kd.M k28 _ _ _ (⟨0, 13835058055282163712⟩ : S28) [.float .f64 0, .float .f64 13835058055282163712] from (k28_mkM _ _ _ (⟨0, 13835058055282163712⟩ : S28) )) (Reps.c2 (show Kd.M k28 _ _ _ (⟨4607182418800017408, 4607182418800017408⟩ : S28) [.float .f64 4607182418800017408, .float .f64 4607182418800017408] from (k28_mkM _ _ _ (⟨4607182418800017408, 4607182418800017408⟩ : S28) )) (Reps.none _ _)))))))); intro v504 w95 ho96 hb hg_ hnew_; clear hg_ hnew_; (first | rw [← Ny503.out] at ho96 | (simp only [Int.reduceToNat] at ho96; rw [← Ny503.out] at ho96)); have n0_ := Aside0.mk (Kd.R_lower (Kd.R_newB ho96 (g := gb502) (o := .cells #[.float .f64 (floatOfInt .f64 (wrap64 (t500 - 128))), .float .f64 (floatOfInt .f64 (wrap64 (t501 - 128)))] 28 (0, 0)) (by (with_reducible repeat (first | refine blk_drewN ?_ _ | refine blk_drew ?_ | refine blk_alloc ?_ _)); refine blk_put (cs := #[.float .f64 (floatOfInt .f64 (wrap64 (t500 - 128))), .float .f64 0]) ?_ 1 _ rfl; refine blk_put (cs := #[.float .f64 0, .float .f64 0]) ?_ 0 _ rfl; (with_reducible repeat (first | refine blk_drewN ?_ _ | refine blk_drew ?_ | refine blk_alloc ?_ _)); exact BK502.out)) (below_size (bw1 HB.out GE502.out))); have n1_ := Aside0.mk (blk_below (g := gb502) (o := .cells #[.float .f64 (floatOfInt .f64 (wrap64 (t500 - 128))), .float .f64 (floatOfInt .f64 (wrap64 (t501 - 128)))] 28 (0, 0)) (by (with_reducible repeat (first | refine blk_drewN ?_ _ | refine blk_drew ?_ | refine blk_alloc ?_ _)); refine blk_put (cs := #[.float .f64 (floatOfInt .f64 (wrap64 (t500 - 128))), .float .f64 0]) ?_ 1 _ rfl; refine blk_put (cs := #[.float .f64 0, .float .f64 0]) ?_ 0 _ rfl; (with_reducible repeat (first | refine blk_drewN ?_ _ | refine blk_drew ?_ | refine blk_alloc ?_ _)); exact BK502.out) hb); have n2_ := Aside0.mk (below_step (bw1 HB.out GE502.out) hb); clear BK502; clear HB; have HO505 := n0_; have BK502 := n1_; have HB := n2_; clear n0_ n1_ n2_; clear hb ho96) | ((with_reducible refine gate_callee (f := 42) rfl ?_); refine goesL_ (some 94) rfl rfl Try.func42 (by kernel_rfl) rfl #[.slice A0 l0.length c0, .int .i64 2] rfl gl ?_; (with_reducible refine (laws_at.calls _ _ l0 2 t506 _ ?side1 ?side2 A81.out).mono ?_); (case side1 => exact ck (Kd.C_below HR0.out HB.out)); (case side2 => exact HC0.out); rintro e w' ⟨rfl, ⟨nd, rfl⟩⟩; refine ⟨_, rfl, ?_⟩; (try (rw [drewN_self w95]; generalize hq_ : World.drewN w95 _ = w95; have n0_ : Aside0 (Kd.R k28 28 w95 w.heap.size (fun k_ => k_ ≠ gb502) v504 y503) := ⟨by rw [← hq_]; exact (by (with_reducible repeat (first | apply Kd.R_alloc | apply Kd.R_drewN | apply Kd.R_drew)); exact Kd.R_mono HO505.out (fun _ hk => hk.2))⟩; have n1_ : Aside0 (w95.heap[gb502]? = some (.cells #[.float .f64 (floatOfInt .f64 (wrap64 (t500 - 128))), .float .f64 (floatOfInt .f64 (wrap64 (t501 - 128)))] 28 (0, 0))) := ⟨by rw [← hq_]; exact (bk BK502.out)⟩; have n2_ : Aside0 (Below w.heap.size w w95) := ⟨by rw [← hq_]; exact (bw1 HB.out GE502.out)⟩; clear HO505 BK502 HB hq_; have HO505 := n0_; have BK502 := n1_; have HB := n2_; clear n0_ n1_ n2_)); obtain ⟨Ao97, co97, eo97⟩ := Kd.R_slice HO505.out; subst eo97; have p507 : 0 ≤ ((ji83) : Int) := oa; have q507 : (ji83) < (y503.length : Int) := oa; obtain ⟨ad507, e507, hx507_0, hx507_1⟩ := at_T28 (Kd.R_reads' HO505.out).2.2 (ji83) p507 q507; cases e507; replace p507 := eq_true p507; replace q507 := eq_true q507) | ((with_reducible refine gate_dst (N := 11) rfl ?_); (try (refine gate_guard (by rfl) ?_; dsimp only)); refine box_event ?hg (N := 11) ?hd (cs := #[.float .f64 0, .float .f64 0]) (t := 28) ?hr ?_; (case hd => rfl); (case hg => rfl); (case hr => first | (go_simp; done) | (go_simp; rfl)); intro gb508 hg w98 hbox hb; have n0_ := Aside0.mk (Kd.R_below (Kd.R_elderB (rk HO505.out) gb508 (Nat.le_of_eq hg.symm)) hb); have n1_ := Aside0.mk (bB BK502.out hb); have n2_ := Aside0.mk (below_step (bw1 HB.out GE502.out) hb); have n3_ := Aside0.mk (hbox); have n4_ := Aside0.mk ((by rw [hg]; exact (below_size (bw1 HB.out GE502.out)) : w.heap.size ≤ gb508)); have n5_ := Aside0.mk ((by rw [hg]; exact (below_size (bw1 HB.out GE502.out)) : w.heap.size ≤ gb508)); have n6_ := Aside0.mk ((by rw [hg]; exact Nat.ne_of_lt (bL BK502.out) : gb502 ≠ gb508)); have n7_ := Aside0.mk ((by rw [hg]; exact Nat.ne_of_gt (bL BK502.out) : gb508 ≠ gb502)); clear HO505; clear BK502; clear HB; have HO505 := n0_; have BK502 := n1_; have HB := n2_; have BK508 := n3_; have GW508 := n4_; have GE508 := n5_; have NB502_508 := n6_; have NB508_502 := n7_; clear n0_ n1_ n2_ n3_ n4_ n5_ n6_ n7_; clear hb hbox hg; have hnb99 := NB508_502.out; have hnc99 := NB502_508.out; have hcz100_0 : w98.cell? ⟨gb508, 0, none⟩ = some (.float .f64 0) := (blk_cell BK508.out 0).trans rfl; have hcz100_1 : w98.cell? ⟨gb508, 1, none⟩ = some (.float .f64 0) := (blk_cell BK508.out 1).trans rfl; have hfz100_0 := blk_frozen BK508.out 0; have hfz100_1 := blk_frozen BK508.out 1))
           have n0_ : Aside0 (Kd.R k28 28 ((w98.setCell ⟨gb508, 0, none⟩ (.float .f64 ((rd_T28 y503 (ji83)).f0))).setCell ⟨gb508, 1, none⟩ (.float .f64 ((rd_T28 y503 (ji83)).f1))) w.heap.size (fun k_ => k_ ≠ gb502 ∧ k_ ≠ gb508) (.slice (some ad507) y503.length co97) y503) := ⟨by (with_reducible repeat (first | apply Kd.R_alloc | apply Kd.R_drewN | apply Kd.R_drew)); exact Kd.R_mono (Kd.R_far (Kd.R_far (Kd.R_mono HO505.out (fun k_ hk => (⟨hk, hk.2⟩ : _ ∧ k_ ≠ gb508))) (fun _ hk => hk.2) (.float .f64 ((rd_T28 y503 (ji83)).f0))) (fun _ hk => hk.2) (.float .f64 ((rd_T28 y503 (ji83)).f1))) (fun _ hk => by first | exact ⟨hk.1.2, hk.2⟩ | exact ⟨hk.1.1, hk.1.2⟩ | exact ⟨hk.2, hk.1.2⟩ | exact ⟨hk.1.2, hk.1.1⟩ | exact ⟨hk.1.1, hk.2⟩ | exact ⟨hk.2, hk.1.1⟩)⟩
           have n1_ : Aside0 (((w98.setCell ⟨gb508, 0, none⟩ (.float .f64 ((rd_T28 y503 (ji83)).f0))).setCell ⟨gb508, 1, none⟩ (.float .f64 ((rd_T28 y503 (ji83)).f1))).heap[gb502]? = some (.cells #[.float .f64 (floatOfInt .f64 (wrap64 (t500 - 128))), .float .f64 (floatOfInt .f64 (wrap64 (t501 - 128)))] 28 (0, 0))) := ⟨by (with_reducible repeat (first | refine blk_drewN ?_ _ | refine blk_drew ?_ | refine blk_alloc ?_ _)); refine blk_far ?_ NB502_508.out _; refine blk_far ?_ NB502_508.out _; (with_reducible repeat (first | refine blk_drewN ?_ _ | refine blk_drew ?_ | refine blk_alloc ?_ _)); exact BK502.out⟩
           have n2_ : Aside0 (((w98.setCell ⟨gb508, 0, none⟩ (.float .f64 ((rd_T28 y503 (ji83)).f0))).setCell ⟨gb508, 1, none⟩ (.float .f64 ((rd_T28 y503 (ji83)).f1))).heap[gb508]? = some (.cells #[.float .f64 ((rd_T28 y503 (ji83)).f0), .float .f64 ((rd_T28 y503 (ji83)).f1)] 28 (0, 0))) := ⟨by (with_reducible repeat (first | refine blk_drewN ?_ _ | refine blk_drew ?_ | refine blk_alloc ?_ _)); refine blk_put (cs := #[.float .f64 ((rd_T28 y503 (ji83)).f0), .float .f64 0]) ?_ 1 _ rfl; refine blk_put (cs := #[.float .f64 0, .float .f64 0]) ?_ 0 _ rfl; (with_reducible repeat (first | refine blk_drewN ?_ _ | refine blk_drew ?_ | refine blk_alloc ?_ _)); exact BK508.out⟩
           have n3_ : Aside0 (Below w.heap.size w ((w98.setCell ⟨gb508, 0, none⟩ (.float .f64 ((rd_T28 y503 (ji83)).f0))).setCell ⟨gb508, 1, none⟩ (.float .f64 ((rd_T28 y503 (ji83)).f1)))) := ⟨bw2 HB.out GE502.out GE508.out⟩
           (try clear HO505)
           (try clear BK502)
           (try clear BK508)
           (try clear HB)
           generalize ((w98.setCell ⟨gb508, 0, none⟩ (.float .f64 ((rd_T28 y503 (ji83)).f0))).setCell ⟨gb508, 1, none⟩ (.float .f64 ((rd_T28 y503 (ji83)).f1))) = w101 at n0_ n1_ n2_ n3_ ⊢
           have HO505 := n0_
           have BK502 := n1_
           have BK508 := n2_
           have HB := n3_
           clear n0_ n1_ n2_ n3_
           have n0_ := Aside0.mk (Kd.R_drew HO505.out)
           have n1_ := Aside0.mk (blk_drew BK502.out)
           have n2_ := Aside0.mk (blk_drew BK508.out)
           have n3_ := Aside0.mk (below_drew1 HB.out)
           clear HO505
           clear BK502
           clear BK508
           clear HB
           have HO505 := n0_
           have BK502 := n1_
           have BK508 := n2_
           have HB := n3_
           clear n0_ n1_ n2_ n3_
           refine start_ (n := 11) (S := fun w' => w'.cell? ⟨gb502, 0, none⟩ = some (.float .f64 (floatOfInt .f64 (wrap64 (t500 - 128)))) ∧ w'.cell? ⟨gb502, 1, none⟩ = some (.float .f64 (floatOfInt .f64 (wrap64 (t501 - 128)))) ∧ w'.cell? ⟨gb508, 0, none⟩ = some (.float .f64 ((rd_T28 y503 (ji83)).f0)) ∧ w'.cell? ⟨gb508, 1, none⟩ = some (.float .f64 ((rd_T28 y503 (ji83)).f1))) (ds := []) #[false, false, false, false, false, false, false, false, false, false, false] (by kernel_rfl) rfl rfl ⟨(blk_cell BK502.out 0).trans rfl, (blk_cell BK502.out 1).trans rfl, (blk_cell BK508.out 0).trans rfl, (blk_cell BK508.out 1).trans rfl⟩ (fun hHeld => ?_); refine with_tabW laws_FnPhasors.tab14 laws_FnPhasors.bits14 (fun HT_ HW_ => ?_)
           generalize w101.drew = w102 at HO505 BK502 BK508 HB hHeld ⊢
           refine take_ (i := 0) (N := some 101) (v := ?_) (a' := ?_) #[true, false, false, false, false, false, false, false, false, false, false] rfl rfl (take_ofW HT_.out HW_.out (by kernel_rfl)) (fun _ _ _ h => h) (Or.inl ⟨by rfl, ?_⟩) hHeld ?_ ?_
           rotate_left
           ·rintro w' ⟨s0, s1, s2, s3⟩
            go_simp
            with_reducible rfl
           rotate_left
           ·simp only [Act.put, List.setIfInBounds_toArray, List.set_cons_zero, List.set_cons_succ, i64_w, i32_w]
            rfl
           refine take_ (i := 1) (N := some 102) (v := ?_) (a' := ?_) #[true, true, false, false, false, false, false, false, false, false, false] rfl rfl (take_ofW HT_.out HW_.out (by kernel_rfl)) (fun _ _ _ h => h) (Or.inl ⟨by rfl, ?_⟩) hHeld ?_ ?_
           rotate_left
           ·rintro w' ⟨s0, s1, s2, s3⟩
            go_simp
            with_reducible rfl
           rotate_left
           ·simp only [Act.put, List.setIfInBounds_toArray, List.set_cons_zero, List.set_cons_succ, i64_w, i32_w]
            rfl
           refine take_ (i := 3) (N := some 104) (v := ?_) (a' := ?_) #[true, true, false, true, false, false, false, false, false, false, false] rfl rfl (take_ofW HT_.out HW_.out (by kernel_rfl)) (fun _ _ _ h => h) (Or.inl ⟨by rfl, ?_⟩) hHeld ?_ ?_
           rotate_left
           ·rintro w' ⟨s0, s1, s2, s3⟩
            go_simp
            with_reducible rfl
           rotate_left
           ·simp only [Act.put, List.setIfInBounds_toArray, List.set_cons_zero, List.set_cons_succ, i64_w, i32_w]
            rfl
           refine join_ (σ := Nat × Nat × Nat × Nat × Bool × Nat) 2 #[true, true, true, true, true, true, true, true, true, false, false] (fun s_ => [(103, .agg #[.float .f64 s_.1, .float .f64 s_.2.1]), (105, .tuple #[.agg #[.float .f64 s_.2.2.1, .float .f64 s_.2.2.2.1], .bool s_.2.2.2.2.1]), (12, .pointer (some ⟨s_.2.2.2.2.2, 0, none⟩)), (100, .tuple #[.agg #[.float .f64 s_.2.2.1, .float .f64 s_.2.2.2.1], .bool s_.2.2.2.2.1]), (106, .agg #[.float .f64 s_.2.2.1, .float .f64 s_.2.2.2.1]), (107, .bool s_.2.2.2.2.1)]) (fun s_ w' => (w'.cell? ⟨gb502, 0, none⟩ = some (.float .f64 (floatOfInt .f64 (wrap64 (t500 - 128)))) ∧ w'.cell? ⟨gb502, 1, none⟩ = some (.float .f64 (floatOfInt .f64 (wrap64 (t501 - 128)))) ∧ w'.cell? ⟨gb508, 0, none⟩ = some (.float .f64 ((rd_T28 y503 (ji83)).f0)) ∧ w'.cell? ⟨gb508, 1, none⟩ = some (.float .f64 ((rd_T28 y503 (ji83)).f1))) ∧ (Kd.R k28 28 w' w.heap.size (fun k_ => k_ ≠ gb502 ∧ k_ ≠ gb508 ∧ k_ ≠ s_.2.2.2.2.2) (.slice (some ad507) y503.length co97) y503) ∧ (w'.heap[gb502]? = some (.cells #[.float .f64 (floatOfInt .f64 (wrap64 (t500 - 128))), .float .f64 (floatOfInt .f64 (wrap64 (t501 - 128)))] 28 (0, 0))) ∧ (w'.heap[gb508]? = some (.cells #[.float .f64 ((rd_T28 y503 (ji83)).f0), .float .f64 ((rd_T28 y503 (ji83)).f1)] 28 (0, 0))) ∧ (w'.heap[s_.2.2.2.2.2]? = some (.cells #[.float .f64 0, .float .f64 0] 28 (0, 0))) ∧ (w.heap.size ≤ s_.2.2.2.2.2) ∧ (w.heap.size ≤ s_.2.2.2.2.2) ∧ (gb502 ≠ s_.2.2.2.2.2) ∧ (s_.2.2.2.2.2 ≠ gb502) ∧ (gb508 ≠ s_.2.2.2.2.2) ∧ (s_.2.2.2.2.2 ≠ gb508) ∧ (impl_PhOver.f kj49 s_.1 s_.2.1 ((rd_T28 y503 (ji83)).f0) ((rd_T28 y503 (ji83)).f1) (fun bt511 => (impl_PhOver.f kj49 (floatOfInt .f64 (wrap64 (t500 - 128))) (floatOfInt .f64 (wrap64 (t501 - 128))) 0 0 (fun bt515 => (impl_TurnAll.f kj49 (([(⟨floatOfInt .f64 (wrap64 (t500 - 128)), floatOfInt .f64 (wrap64 (t501 - 128))⟩ : S28)] : List (S28))) (([(⟨5, 0, 0, (⟨0, 0⟩ : S28)⟩ : S56), (⟨5, 0, 0, (⟨0, 0⟩ : S28)⟩ : S56)] : List (S56))) (fun bt525 => (if bt511.2.2 = true then (if bt515.2.2 = true then (False) else (∃ t535, impl_AlikePh.f kj49 (([(⟨bt511.1, bt511.2.1⟩ : S28)] : List (S28))) (([(⟨floatOfInt .f64 (wrap64 (t500 - 128)), floatOfInt .f64 (wrap64 (t501 - 128))⟩ : S28)] : List (S28))) = some t535 ∧ (if t535 = true then (if bt525.2 = true then (∃ t539, impl_AlikePh.f kj49 bt525.1 (([(⟨floatOfInt .f64 (wrap64 (t500 - 128)), floatOfInt .f64 (wrap64 (t501 - 128))⟩ : S28)] : List (S28))) = some t539 ∧ (t539 = true)) else (False)) else (False)))) else (False)))))))) ∧ (impl_PhOver.f kj49 (floatOfInt .f64 (wrap64 (t500 - 128))) (floatOfInt .f64 (wrap64 (t501 - 128))) 0 0 (fun bt515 => (impl_TurnAll.f kj49 (([(⟨floatOfInt .f64 (wrap64 (t500 - 128)), floatOfInt .f64 (wrap64 (t501 - 128))⟩ : S28)] : List (S28))) (([(⟨5, 0, 0, (⟨0, 0⟩ : S28)⟩ : S56), (⟨5, 0, 0, (⟨0, 0⟩ : S28)⟩ : S56)] : List (S56))) (fun bt525 => (if s_.2.2.2.2.1 = true then (if bt515.2.2 = true then (False) else (∃ t535, impl_AlikePh.f kj49 (([(⟨s_.2.2.1, s_.2.2.2.1⟩ : S28)] : List (S28))) (([(⟨floatOfInt .f64 (wrap64 (t500 - 128)), floatOfInt .f64 (wrap64 (t501 - 128))⟩ : S28)] : List (S28))) = some t535 ∧ (if t535 = true then (if bt525.2 = true then (∃ t539, impl_AlikePh.f kj49 bt525.1 (([(⟨floatOfInt .f64 (wrap64 (t500 - 128)), floatOfInt .f64 (wrap64 (t501 - 128))⟩ : S28)] : List (S28))) = some t539 ∧ (t539 = true)) else (False)) else (False)))) else (False)))))) ∧ (Below w.heap.size w w')) ?_ ?_
           rotate_left
           ·intro hCont
            refine two_ (i := 2) (j := 8) (Ni := some 103) (Nj := some 12) #[true, true, true, true, false, false, false, false, false, false, false] #[true, true, false, true, false, false, false, false, true, false, false] rfl rfl rfl rfl (two_of HT_.out (by kernel_rfl)) (by decide) (by decide) (fun K hK => ?_) (fun K hK => ?_)
            ·skip
             refine goes_ Try.func23 (by kernel_rfl) rfl #[.agg #[.float .f64 (floatOfInt .f64 (wrap64 (t500 - 128))), .float .f64 (floatOfInt .f64 (wrap64 (t501 - 128)))], .agg #[.float .f64 ((rd_T28 y503 (ji83)).f0), .float .f64 ((rd_T28 y503 (ji83)).f1)]] (by rfl) rfl rfl (by (try simp only [List.map_toArray, List.map_cons, List.map_nil]); first | done | (simp only [hji83]; rfl) | rfl | (simp only [List.length_drop, List.length_take]; rfl)) ?_
             with_reducible refine (impl_PhTimes.calls (floatOfInt .f64 (wrap64 (t500 - 128))) (floatOfInt .f64 (wrap64 (t501 - 128))) ((rd_T28 y503 (ji83)).f0) ((rd_T28 y503 (ji83)).f1) _ _ HD87.out).mono ?_
             rintro e w103 ⟨t509, t510, hq_, rfl, hb⟩
             refine ⟨_, rfl, ?_⟩
             have HD86 := Aside0.mk hq_
             clear hq_ HD87
             have n0_ := Aside0.mk (Kd.R_below (rk HO505.out) hb)
             have n1_ := Aside0.mk (bB BK502.out hb)
             have n2_ := Aside0.mk (bB BK508.out hb)
             have n3_ := Aside0.mk (below_step (bw2 HB.out GE502.out GE508.out) hb)
             clear HO505
             clear BK502
             clear BK508
             clear HB
             have HO505 := n0_
             have BK502 := n1_
             have BK508 := n2_
             have HB := n3_
             clear n0_ n1_ n2_ n3_
             (try clear hb)
             (try clear hb2)
             (try clear hk)
             (try clear hi)
             refine hK.out _ _ ⟨(blk_cell BK502.out 0).trans rfl, (blk_cell BK502.out 1).trans rfl, (blk_cell BK508.out 0).trans rfl, (blk_cell BK508.out 1).trans rfl⟩ (fun hHeld => ?_)
             clear hK K
             refine norm_ (a' := ?_) ?_ ?_
             rotate_left
             ·show Act.put _ (some 103) _ = _
              simp only [Act.put, List.setIfInBounds_toArray, List.set_cons_zero, List.set_cons_succ, i64_w, i32_w]
              rfl
             refine two_ (i := 4) (j := 8) (Ni := some 105) (Nj := some 12) #[true, true, true, true, true, false, false, false, false, false, false] #[true, true, true, true, false, false, false, false, true, false, false] rfl rfl rfl rfl (two_of HT_.out (by kernel_rfl)) (by decide) (by decide) (fun K hK => ?_) (fun K hK => ?_)
             ·skip
              refine goes_ Try.func32 (by kernel_rfl) rfl #[.agg #[.float .f64 t509, .float .f64 t510], .agg #[.float .f64 ((rd_T28 y503 (ji83)).f0), .float .f64 ((rd_T28 y503 (ji83)).f1)]] (by rfl) rfl rfl (by (try simp only [List.map_toArray, List.map_cons, List.map_nil]); first | done | (simp only [hji83]; rfl) | rfl | (simp only [List.length_drop, List.length_take]; rfl)) ?_
              with_reducible refine (impl_PhOver.calls kj49 t509 t510 ((rd_T28 y503 (ji83)).f0) ((rd_T28 y503 (ji83)).f1) _ _ HD86.out).mono ?_
              rintro e w104 ⟨t511, t512, t513, hq_, rfl, hb⟩
              refine ⟨_, rfl, ?_⟩
              have HD88 := Aside0.mk hq_
              clear hq_
              have n0_ := Aside0.mk (Kd.R_below (rk HO505.out) hb)
              have n1_ := Aside0.mk (bB BK502.out hb)
              have n2_ := Aside0.mk (bB BK508.out hb)
              have n3_ := Aside0.mk (below_step (bw2 HB.out GE502.out GE508.out) hb)
              clear HO505
              clear BK502
              clear BK508
              clear HB
              have HO505 := n0_
              have BK502 := n1_
              have BK508 := n2_
              have HB := n3_
              clear n0_ n1_ n2_ n3_
              (try clear hb)
              (try clear hb2)
              (try clear hk)
              (try clear hi)
              refine hK.out _ _ ⟨(blk_cell BK502.out 0).trans rfl, (blk_cell BK502.out 1).trans rfl, (blk_cell BK508.out 0).trans rfl, (blk_cell BK508.out 1).trans rfl⟩ (fun hHeld => ?_)
              clear hK K
              refine norm_ (a' := ?_) ?_ ?_
              rotate_left
              ·show Act.put _ (some 105) _ = _
               simp only [Act.put, List.setIfInBounds_toArray, List.set_cons_zero, List.set_cons_succ, i64_w, i32_w]
               rfl
              refine pure_ (i := 5) (N := some 100) (v := ?_) (a' := ?_) #[true, true, true, true, true, true, false, false, false, false, false] rfl rfl (any_of HT_.out (by kernel_rfl)) (fun _ _ _ h => h) (Or.inl ⟨by rfl, ?_⟩) ?_ ?_
              rotate_left
              ·intro w'
               go_simp
               with_reducible rfl
              rotate_left
              ·simp only [Act.put, List.setIfInBounds_toArray, List.set_cons_zero, List.set_cons_succ, i64_w, i32_w]
               rfl
              refine pure_ (i := 6) (N := some 106) (v := ?_) (a' := ?_) #[true, true, true, true, true, true, true, false, false, false, false] rfl rfl (any_of HT_.out (by kernel_rfl)) (fun _ _ _ h => h) (Or.inl ⟨by rfl, ?_⟩) ?_ ?_
              rotate_left
              ·intro w'
               go_simp
               with_reducible rfl
              rotate_left
              ·simp only [Act.put, List.setIfInBounds_toArray, List.set_cons_zero, List.set_cons_succ, i64_w, i32_w]
               rfl
              refine pure_ (i := 7) (N := some 107) (v := ?_) (a' := ?_) #[true, true, true, true, true, true, true, true, false, false, false] rfl rfl (any_of HT_.out (by kernel_rfl)) (fun _ _ _ h => h) (Or.inl ⟨by rfl, ?_⟩) ?_ ?_
              rotate_left
              ·intro w'
               go_simp
               with_reducible rfl
              rotate_left
              ·simp only [Act.put, List.setIfInBounds_toArray, List.set_cons_zero, List.set_cons_succ, i64_w, i32_w]
               rfl
              refine one_ (i := 8) (N := some 12) #[true, true, true, true, true, true, true, true, true, false, false] rfl rfl (one_of HT_.out (by kernel_rfl)) (by decide) (fun K hK => ?_)
              refine box_step ?hg (N := 12) ?hd (cs := #[.float .f64 0, .float .f64 0]) (t := 28) ?hr ?_; (case hd => rfl); (case hg => rfl); (case hr => first | (go_simp; done) | (go_simp; rfl))
              intro gb514 hg w105 hbox hb
              have n0_ := Aside0.mk (Kd.R_below (Kd.R_elderB (rk HO505.out) gb514 (Nat.le_of_eq hg.symm)) hb)
              have n1_ := Aside0.mk (bB BK502.out hb)
              have n2_ := Aside0.mk (bB BK508.out hb)
              have n3_ := Aside0.mk (below_step (bw2 HB.out GE502.out GE508.out) hb)
              have n4_ := Aside0.mk (hbox)
              have n5_ := Aside0.mk ((by rw [hg]; exact (below_size (bw2 HB.out GE502.out GE508.out)) : w.heap.size ≤ gb514))
              have n6_ := Aside0.mk ((by rw [hg]; exact (below_size (bw2 HB.out GE502.out GE508.out)) : w.heap.size ≤ gb514))
              have n7_ := Aside0.mk ((by rw [hg]; exact Nat.ne_of_lt (bL BK502.out) : gb502 ≠ gb514))
              have n8_ := Aside0.mk ((by rw [hg]; exact Nat.ne_of_gt (bL BK502.out) : gb514 ≠ gb502))
              have n9_ := Aside0.mk ((by rw [hg]; exact Nat.ne_of_lt (bL BK508.out) : gb508 ≠ gb514))
              have n10_ := Aside0.mk ((by rw [hg]; exact Nat.ne_of_gt (bL BK508.out) : gb514 ≠ gb508))
              clear HO505
              clear BK502
              clear BK508
              clear HB
              have HO505 := n0_
              have BK502 := n1_
              have BK508 := n2_
              have HB := n3_
              have BK514 := n4_
              have GW514 := n5_
              have GE514 := n6_
              have NB502_514 := n7_
              have NB514_502 := n8_
              have NB508_514 := n9_
              have NB514_508 := n10_
              clear n0_ n1_ n2_ n3_ n4_ n5_ n6_ n7_ n8_ n9_ n10_
              clear hb hbox hg
              refine hK.out _ _ ⟨(blk_cell BK502.out 0).trans rfl, (blk_cell BK502.out 1).trans rfl, (blk_cell BK508.out 0).trans rfl, (blk_cell BK508.out 1).trans rfl⟩ (fun hHeld => ?_)
              clear hK K
              refine norm_ (a' := ?_) ?_ ?_
              rotate_left
              ·show Act.put _ (some 12) _ = _
               simp only [Act.put, List.setIfInBounds_toArray, List.set_cons_zero, List.set_cons_succ, i64_w, i32_w]
               rfl
              exact norm_ (by simp only [putAll, Act.put, List.setIfInBounds_toArray, List.set_cons_zero, List.set_cons_succ]) (hCont (t509, t510, t511, t512, t513, gb514) _ ⟨hHeld, (by (with_reducible repeat (first | apply Kd.R_alloc | apply Kd.R_drewN | apply Kd.R_drew)); exact Kd.R_mono HO505.out (fun _ hk => ⟨hk.1.1, ⟨hk.1.2, hk.2⟩⟩)), (bk BK502.out), (bk BK508.out), (bk BK514.out), GW514.out, GE514.out, NB502_514.out, NB514_502.out, NB508_514.out, NB514_508.out, HD86.out, HD88.out, (bw3 HB.out GE502.out GE508.out GE514.out)⟩)
             ·skip
              refine box_step ?hg (N := 12) ?hd (cs := #[.float .f64 0, .float .f64 0]) (t := 28) ?hr ?_; (case hd => rfl); (case hg => rfl); (case hr => first | (go_simp; done) | (go_simp; rfl))
              intro gb514 hg w104 hbox hb
              have n0_ := Aside0.mk (Kd.R_below (Kd.R_elderB (rk HO505.out) gb514 (Nat.le_of_eq hg.symm)) hb)
              have n1_ := Aside0.mk (bB BK502.out hb)
              have n2_ := Aside0.mk (bB BK508.out hb)
              have n3_ := Aside0.mk (below_step (bw2 HB.out GE502.out GE508.out) hb)
              have n4_ := Aside0.mk (hbox)
              have n5_ := Aside0.mk ((by rw [hg]; exact (below_size (bw2 HB.out GE502.out GE508.out)) : w.heap.size ≤ gb514))
              have n6_ := Aside0.mk ((by rw [hg]; exact (below_size (bw2 HB.out GE502.out GE508.out)) : w.heap.size ≤ gb514))
              have n7_ := Aside0.mk ((by rw [hg]; exact Nat.ne_of_lt (bL BK502.out) : gb502 ≠ gb514))
              have n8_ := Aside0.mk ((by rw [hg]; exact Nat.ne_of_gt (bL BK502.out) : gb514 ≠ gb502))
              have n9_ := Aside0.mk ((by rw [hg]; exact Nat.ne_of_lt (bL BK508.out) : gb508 ≠ gb514))
              have n10_ := Aside0.mk ((by rw [hg]; exact Nat.ne_of_gt (bL BK508.out) : gb514 ≠ gb508))
              clear HO505
              clear BK502
              clear BK508
              clear HB
              have HO505 := n0_
              have BK502 := n1_
              have BK508 := n2_
              have HB := n3_
              have BK514 := n4_
              have GW514 := n5_
              have GE514 := n6_
              have NB502_514 := n7_
              have NB514_502 := n8_
              have NB508_514 := n9_
              have NB514_508 := n10_
              clear n0_ n1_ n2_ n3_ n4_ n5_ n6_ n7_ n8_ n9_ n10_
              clear hb hbox hg
              refine hK.out _ _ ⟨(blk_cell BK502.out 0).trans rfl, (blk_cell BK502.out 1).trans rfl, (blk_cell BK508.out 0).trans rfl, (blk_cell BK508.out 1).trans rfl⟩ (fun hHeld => ?_)
              clear hK K
              refine norm_ (a' := ?_) ?_ ?_
              rotate_left
              ·show Act.put _ (some 12) _ = _
               simp only [Act.put, List.setIfInBounds_toArray, List.set_cons_zero, List.set_cons_succ, i64_w, i32_w]
               rfl
              refine one_ (i := 4) (N := some 105) #[true, true, true, true, true, false, false, false, true, false, false] rfl rfl (one_of HT_.out (by kernel_rfl)) (by decide) (fun K hK => ?_)
              refine goes_ Try.func32 (by kernel_rfl) rfl #[.agg #[.float .f64 t509, .float .f64 t510], .agg #[.float .f64 ((rd_T28 y503 (ji83)).f0), .float .f64 ((rd_T28 y503 (ji83)).f1)]] (by rfl) rfl rfl (by (try simp only [List.map_toArray, List.map_cons, List.map_nil]); first | done | (simp only [hji83]; rfl) | rfl | (simp only [List.length_drop, List.length_take]; rfl)) ?_
              with_reducible refine (impl_PhOver.calls kj49 t509 t510 ((rd_T28 y503 (ji83)).f0) ((rd_T28 y503 (ji83)).f1) _ _ HD86.out).mono ?_
              rintro e w105 ⟨t511, t512, t513, hq_, rfl, hb⟩
              refine ⟨_, rfl, ?_⟩
              have HD88 := Aside0.mk hq_
              clear hq_
              have n0_ := Aside0.mk (Kd.R_below (rk HO505.out) hb)
              have n1_ := Aside0.mk (bB BK502.out hb)
              have n2_ := Aside0.mk (bB BK508.out hb)
              have n3_ := Aside0.mk (bB BK514.out hb)
              have n4_ := Aside0.mk (below_step (bw3 HB.out GE502.out GE508.out GE514.out) hb)
              clear HO505
              clear BK502
              clear BK508
              clear BK514
              clear HB
              have HO505 := n0_
              have BK502 := n1_
              have BK508 := n2_
              have BK514 := n3_
              have HB := n4_
              clear n0_ n1_ n2_ n3_ n4_
              (try clear hb)
              (try clear hb2)
              (try clear hk)
              (try clear hi)
              refine hK.out _ _ ⟨(blk_cell BK502.out 0).trans rfl, (blk_cell BK502.out 1).trans rfl, (blk_cell BK508.out 0).trans rfl, (blk_cell BK508.out 1).trans rfl⟩ (fun hHeld => ?_)
              clear hK K
              refine norm_ (a' := ?_) ?_ ?_
              rotate_left
              ·show Act.put _ (some 105) _ = _
               simp only [Act.put, List.setIfInBounds_toArray, List.set_cons_zero, List.set_cons_succ, i64_w, i32_w]
               rfl
              refine pure_ (i := 5) (N := some 100) (v := ?_) (a' := ?_) #[true, true, true, true, true, true, false, false, true, false, false] rfl rfl (any_of HT_.out (by kernel_rfl)) (fun _ _ _ h => h) (Or.inl ⟨by rfl, ?_⟩) ?_ ?_
              rotate_left
              ·intro w'
               go_simp
               with_reducible rfl
              rotate_left
              ·simp only [Act.put, List.setIfInBounds_toArray, List.set_cons_zero, List.set_cons_succ, i64_w, i32_w]
               rfl
              refine pure_ (i := 6) (N := some 106) (v := ?_) (a' := ?_) #[true, true, true, true, true, true, true, false, true, false, false] rfl rfl (any_of HT_.out (by kernel_rfl)) (fun _ _ _ h => h) (Or.inl ⟨by rfl, ?_⟩) ?_ ?_
              rotate_left
              ·intro w'
               go_simp
               with_reducible rfl
              rotate_left
              ·simp only [Act.put, List.setIfInBounds_toArray, List.set_cons_zero, List.set_cons_succ, i64_w, i32_w]
               rfl
              refine pure_ (i := 7) (N := some 107) (v := ?_) (a' := ?_) #[true, true, true, true, true, true, true, true, true, false, false] rfl rfl (any_of HT_.out (by kernel_rfl)) (fun _ _ _ h => h) (Or.inl ⟨by rfl, ?_⟩) ?_ ?_
              rotate_left
              ·intro w'
               go_simp
               with_reducible rfl
              rotate_left
              ·simp only [Act.put, List.setIfInBounds_toArray, List.set_cons_zero, List.set_cons_succ, i64_w, i32_w]
               rfl
              exact norm_ (by simp only [putAll, Act.put, List.setIfInBounds_toArray, List.set_cons_zero, List.set_cons_succ]) (hCont (t509, t510, t511, t512, t513, gb514) _ ⟨hHeld, (by (with_reducible repeat (first | apply Kd.R_alloc | apply Kd.R_drewN | apply Kd.R_drew)); exact Kd.R_mono HO505.out (fun _ hk => ⟨hk.1.1, ⟨hk.1.2, hk.2⟩⟩)), (bk BK502.out), (bk BK508.out), (bk BK514.out), GW514.out, GE514.out, NB502_514.out, NB514_502.out, NB508_514.out, NB514_508.out, HD86.out, HD88.out, (bw3 HB.out GE502.out GE508.out GE514.out)⟩)
            ·skip
             refine box_step ?hg (N := 12) ?hd (cs := #[.float .f64 0, .float .f64 0]) (t := 28) ?hr ?_; (case hd => rfl); (case hg => rfl); (case hr => first | (go_simp; done) | (go_simp; rfl))
             intro gb514 hg w103 hbox hb
             have n0_ := Aside0.mk (Kd.R_below (Kd.R_elderB (rk HO505.out) gb514 (Nat.le_of_eq hg.symm)) hb)
             have n1_ := Aside0.mk (bB BK502.out hb)
             have n2_ := Aside0.mk (bB BK508.out hb)
             have n3_ := Aside0.mk (below_step (bw2 HB.out GE502.out GE508.out) hb)
             have n4_ := Aside0.mk (hbox)
             have n5_ := Aside0.mk ((by rw [hg]; exact (below_size (bw2 HB.out GE502.out GE508.out)) : w.heap.size ≤ gb514))
             have n6_ := Aside0.mk ((by rw [hg]; exact (below_size (bw2 HB.out GE502.out GE508.out)) : w.heap.size ≤ gb514))
             have n7_ := Aside0.mk ((by rw [hg]; exact Nat.ne_of_lt (bL BK502.out) : gb502 ≠ gb514))
             have n8_ := Aside0.mk ((by rw [hg]; exact Nat.ne_of_gt (bL BK502.out) : gb514 ≠ gb502))
             have n9_ := Aside0.mk ((by rw [hg]; exact Nat.ne_of_lt (bL BK508.out) : gb508 ≠ gb514))
             have n10_ := Aside0.mk ((by rw [hg]; exact Nat.ne_of_gt (bL BK508.out) : gb514 ≠ gb508))
             clear HO505
             clear BK502
             clear BK508
             clear HB
             have HO505 := n0_
             have BK502 := n1_
             have BK508 := n2_
             have HB := n3_
             have BK514 := n4_
             have GW514 := n5_
             have GE514 := n6_
             have NB502_514 := n7_
             have NB514_502 := n8_
             have NB508_514 := n9_
             have NB514_508 := n10_
             clear n0_ n1_ n2_ n3_ n4_ n5_ n6_ n7_ n8_ n9_ n10_
             clear hb hbox hg
             refine hK.out _ _ ⟨(blk_cell BK502.out 0).trans rfl, (blk_cell BK502.out 1).trans rfl, (blk_cell BK508.out 0).trans rfl, (blk_cell BK508.out 1).trans rfl⟩ (fun hHeld => ?_)
             clear hK K
             refine norm_ (a' := ?_) ?_ ?_
             rotate_left
             ·show Act.put _ (some 12) _ = _
              simp only [Act.put, List.setIfInBounds_toArray, List.set_cons_zero, List.set_cons_succ, i64_w, i32_w]
              rfl
             refine one_ (i := 2) (N := some 103) #[true, true, true, true, false, false, false, false, true, false, false] rfl rfl (one_of HT_.out (by kernel_rfl)) (by decide) (fun K hK => ?_)
             refine goes_ Try.func23 (by kernel_rfl) rfl #[.agg #[.float .f64 (floatOfInt .f64 (wrap64 (t500 - 128))), .float .f64 (floatOfInt .f64 (wrap64 (t501 - 128)))], .agg #[.float .f64 ((rd_T28 y503 (ji83)).f0), .float .f64 ((rd_T28 y503 (ji83)).f1)]] (by rfl) rfl rfl (by (try simp only [List.map_toArray, List.map_cons, List.map_nil]); first | done | (simp only [hji83]; rfl) | rfl | (simp only [List.length_drop, List.length_take]; rfl)) ?_
             with_reducible refine (impl_PhTimes.calls (floatOfInt .f64 (wrap64 (t500 - 128))) (floatOfInt .f64 (wrap64 (t501 - 128))) ((rd_T28 y503 (ji83)).f0) ((rd_T28 y503 (ji83)).f1) _ _ HD87.out).mono ?_
             rintro e w104 ⟨t509, t510, hq_, rfl, hb⟩
             refine ⟨_, rfl, ?_⟩
             have HD86 := Aside0.mk hq_
             clear hq_ HD87
             have n0_ := Aside0.mk (Kd.R_below (rk HO505.out) hb)
             have n1_ := Aside0.mk (bB BK502.out hb)
             have n2_ := Aside0.mk (bB BK508.out hb)
             have n3_ := Aside0.mk (bB BK514.out hb)
             have n4_ := Aside0.mk (below_step (bw3 HB.out GE502.out GE508.out GE514.out) hb)
             clear HO505
             clear BK502
             clear BK508
             clear BK514
             clear HB
             have HO505 := n0_
             have BK502 := n1_
             have BK508 := n2_
             have BK514 := n3_
             have HB := n4_
             clear n0_ n1_ n2_ n3_ n4_
             (try clear hb)
             (try clear hb2)
             (try clear hk)
             (try clear hi)
             refine hK.out _ _ ⟨(blk_cell BK502.out 0).trans rfl, (blk_cell BK502.out 1).trans rfl, (blk_cell BK508.out 0).trans rfl, (blk_cell BK508.out 1).trans rfl⟩ (fun hHeld => ?_)
             clear hK K
             refine norm_ (a' := ?_) ?_ ?_
             rotate_left
             ·show Act.put _ (some 103) _ = _
              simp only [Act.put, List.setIfInBounds_toArray, List.set_cons_zero, List.set_cons_succ, i64_w, i32_w]
              rfl
             refine one_ (i := 4) (N := some 105) #[true, true, true, true, true, false, false, false, true, false, false] rfl rfl (one_of HT_.out (by kernel_rfl)) (by decide) (fun K hK => ?_)
             refine goes_ Try.func32 (by kernel_rfl) rfl #[.agg #[.float .f64 t509, .float .f64 t510], .agg #[.float .f64 ((rd_T28 y503 (ji83)).f0), .float .f64 ((rd_T28 y503 (ji83)).f1)]] (by rfl) rfl rfl (by (try simp only [List.map_toArray, List.map_cons, List.map_nil]); first | done | (simp only [hji83]; rfl) | rfl | (simp only [List.length_drop, List.length_take]; rfl)) ?_
             with_reducible refine (impl_PhOver.calls kj49 t509 t510 ((rd_T28 y503 (ji83)).f0) ((rd_T28 y503 (ji83)).f1) _ _ HD86.out).mono ?_
             rintro e w105 ⟨t511, t512, t513, hq_, rfl, hb⟩
             refine ⟨_, rfl, ?_⟩
             have HD88 := Aside0.mk hq_
             clear hq_
             have n0_ := Aside0.mk (Kd.R_below (rk HO505.out) hb)
             have n1_ := Aside0.mk (bB BK502.out hb)
             have n2_ := Aside0.mk (bB BK508.out hb)
             have n3_ := Aside0.mk (bB BK514.out hb)
             have n4_ := Aside0.mk (below_step (bw3 HB.out GE502.out GE508.out GE514.out) hb)
             clear HO505
             clear BK502
             clear BK508
             clear BK514
             clear HB
             have HO505 := n0_
             have BK502 := n1_
             have BK508 := n2_
             have BK514 := n3_
             have HB := n4_
             clear n0_ n1_ n2_ n3_ n4_
             (try clear hb)
             (try clear hb2)
             (try clear hk)
             (try clear hi)
             refine hK.out _ _ ⟨(blk_cell BK502.out 0).trans rfl, (blk_cell BK502.out 1).trans rfl, (blk_cell BK508.out 0).trans rfl, (blk_cell BK508.out 1).trans rfl⟩ (fun hHeld => ?_)
             clear hK K
             refine norm_ (a' := ?_) ?_ ?_
             rotate_left
             ·show Act.put _ (some 105) _ = _
              simp only [Act.put, List.setIfInBounds_toArray, List.set_cons_zero, List.set_cons_succ, i64_w, i32_w]
              rfl
             refine pure_ (i := 5) (N := some 100) (v := ?_) (a' := ?_) #[true, true, true, true, true, true, false, false, true, false, false] rfl rfl (any_of HT_.out (by kernel_rfl)) (fun _ _ _ h => h) (Or.inl ⟨by rfl, ?_⟩) ?_ ?_
             rotate_left
             ·intro w'
              go_simp
              with_reducible rfl
             rotate_left
             ·simp only [Act.put, List.setIfInBounds_toArray, List.set_cons_zero, List.set_cons_succ, i64_w, i32_w]
              rfl
             refine pure_ (i := 6) (N := some 106) (v := ?_) (a' := ?_) #[true, true, true, true, true, true, true, false, true, false, false] rfl rfl (any_of HT_.out (by kernel_rfl)) (fun _ _ _ h => h) (Or.inl ⟨by rfl, ?_⟩) ?_ ?_
             rotate_left
             ·intro w'
              go_simp
              with_reducible rfl
             rotate_left
             ·simp only [Act.put, List.setIfInBounds_toArray, List.set_cons_zero, List.set_cons_succ, i64_w, i32_w]
              rfl
             refine pure_ (i := 7) (N := some 107) (v := ?_) (a' := ?_) #[true, true, true, true, true, true, true, true, true, false, false] rfl rfl (any_of HT_.out (by kernel_rfl)) (fun _ _ _ h => h) (Or.inl ⟨by rfl, ?_⟩) ?_ ?_
             rotate_left
             ·intro w'
              go_simp
              with_reducible rfl
             rotate_left
             ·simp only [Act.put, List.setIfInBounds_toArray, List.set_cons_zero, List.set_cons_succ, i64_w, i32_w]
              rfl
             exact norm_ (by simp only [putAll, Act.put, List.setIfInBounds_toArray, List.set_cons_zero, List.set_cons_succ]) (hCont (t509, t510, t511, t512, t513, gb514) _ ⟨hHeld, (by (with_reducible repeat (first | apply Kd.R_alloc | apply Kd.R_drewN | apply Kd.R_drew)); exact Kd.R_mono HO505.out (fun _ hk => ⟨hk.1.1, ⟨hk.1.2, hk.2⟩⟩)), (bk BK502.out), (bk BK508.out), (bk BK514.out), GW514.out, GE514.out, NB502_514.out, NB514_502.out, NB508_514.out, NB514_508.out, HD86.out, HD88.out, (bw3 HB.out GE502.out GE508.out GE514.out)⟩)
           rintro ⟨t509, t510, t511, t512, t513, gb514⟩ w106 ⟨hS_, h0_, h1_, h2_, h3_, h4_, h5_, h6_, h7_, h8_, h9_, h10_, h11_, h12_⟩
           have n0_ : Aside0 (Kd.R k28 28 w106 w.heap.size (fun k_ => k_ ≠ gb502 ∧ k_ ≠ gb508 ∧ k_ ≠ gb514) (.slice (some ad507) y503.length co97) y503) := ⟨h0_⟩
           have n1_ : Aside0 (w106.heap[gb502]? = some (.cells #[.float .f64 (floatOfInt .f64 (wrap64 (t500 - 128))), .float .f64 (floatOfInt .f64 (wrap64 (t501 - 128)))] 28 (0, 0))) := ⟨h1_⟩
           have n2_ : Aside0 (w106.heap[gb508]? = some (.cells #[.float .f64 ((rd_T28 y503 (ji83)).f0), .float .f64 ((rd_T28 y503 (ji83)).f1)] 28 (0, 0))) := ⟨h2_⟩
           have n3_ : Aside0 (w106.heap[gb514]? = some (.cells #[.float .f64 0, .float .f64 0] 28 (0, 0))) := ⟨h3_⟩
           have n4_ : Aside0 (w.heap.size ≤ gb514) := ⟨h4_⟩
           have n5_ : Aside0 (w.heap.size ≤ gb514) := ⟨h5_⟩
           have n6_ : Aside0 (gb502 ≠ gb514) := ⟨h6_⟩
           have n7_ : Aside0 (gb514 ≠ gb502) := ⟨h7_⟩
           have n8_ : Aside0 (gb508 ≠ gb514) := ⟨h8_⟩
           have n9_ : Aside0 (gb514 ≠ gb508) := ⟨h9_⟩
           have n10_ : Aside0 (impl_PhOver.f kj49 t509 t510 ((rd_T28 y503 (ji83)).f0) ((rd_T28 y503 (ji83)).f1) (fun bt511 => (impl_PhOver.f kj49 (floatOfInt .f64 (wrap64 (t500 - 128))) (floatOfInt .f64 (wrap64 (t501 - 128))) 0 0 (fun bt515 => (impl_TurnAll.f kj49 (([(⟨floatOfInt .f64 (wrap64 (t500 - 128)), floatOfInt .f64 (wrap64 (t501 - 128))⟩ : S28)] : List (S28))) (([(⟨5, 0, 0, (⟨0, 0⟩ : S28)⟩ : S56), (⟨5, 0, 0, (⟨0, 0⟩ : S28)⟩ : S56)] : List (S56))) (fun bt525 => (if bt511.2.2 = true then (if bt515.2.2 = true then (False) else (∃ t535, impl_AlikePh.f kj49 (([(⟨bt511.1, bt511.2.1⟩ : S28)] : List (S28))) (([(⟨floatOfInt .f64 (wrap64 (t500 - 128)), floatOfInt .f64 (wrap64 (t501 - 128))⟩ : S28)] : List (S28))) = some t535 ∧ (if t535 = true then (if bt525.2 = true then (∃ t539, impl_AlikePh.f kj49 bt525.1 (([(⟨floatOfInt .f64 (wrap64 (t500 - 128)), floatOfInt .f64 (wrap64 (t501 - 128))⟩ : S28)] : List (S28))) = some t539 ∧ (t539 = true)) else (False)) else (False)))) else (False)))))))) := ⟨h10_⟩
           have n11_ : Aside0 (impl_PhOver.f kj49 (floatOfInt .f64 (wrap64 (t500 - 128))) (floatOfInt .f64 (wrap64 (t501 - 128))) 0 0 (fun bt515 => (impl_TurnAll.f kj49 (([(⟨floatOfInt .f64 (wrap64 (t500 - 128)), floatOfInt .f64 (wrap64 (t501 - 128))⟩ : S28)] : List (S28))) (([(⟨5, 0, 0, (⟨0, 0⟩ : S28)⟩ : S56), (⟨5, 0, 0, (⟨0, 0⟩ : S28)⟩ : S56)] : List (S56))) (fun bt525 => (if t513 = true then (if bt515.2.2 = true then (False) else (∃ t535, impl_AlikePh.f kj49 (([(⟨t511, t512⟩ : S28)] : List (S28))) (([(⟨floatOfInt .f64 (wrap64 (t500 - 128)), floatOfInt .f64 (wrap64 (t501 - 128))⟩ : S28)] : List (S28))) = some t535 ∧ (if t535 = true then (if bt525.2 = true then (∃ t539, impl_AlikePh.f kj49 bt525.1 (([(⟨floatOfInt .f64 (wrap64 (t500 - 128)), floatOfInt .f64 (wrap64 (t501 - 128))⟩ : S28)] : List (S28))) = some t539 ∧ (t539 = true)) else (False)) else (False)))) else (False)))))) := ⟨h11_⟩
           have n12_ : Aside0 (Below w.heap.size w w106) := ⟨h12_⟩
           clear HO505
           clear BK502
           clear BK508
           clear HB
           clear h0_ h1_ h2_ h3_ h4_ h5_ h6_ h7_ h8_ h9_ h10_ h11_ h12_
           have HO505 := n0_
           have BK502 := n1_
           have BK508 := n2_
           have BK514 := n3_
           have GW514 := n4_
           have GE514 := n5_
           have NB502_514 := n6_
           have NB514_502 := n7_
           have NB508_514 := n8_
           have NB514_508 := n9_
           have HD86 := n10_
           have HD88 := n11_
           have HB := n12_
           clear n0_ n1_ n2_ n3_ n4_ n5_ n6_ n7_ n8_ n9_ n10_ n11_ n12_
           have hHeld : w106.cell? ⟨gb502, 0, none⟩ = some (.float .f64 (floatOfInt .f64 (wrap64 (t500 - 128)))) ∧ w106.cell? ⟨gb502, 1, none⟩ = some (.float .f64 (floatOfInt .f64 (wrap64 (t501 - 128)))) ∧ w106.cell? ⟨gb508, 0, none⟩ = some (.float .f64 ((rd_T28 y503 (ji83)).f0)) ∧ w106.cell? ⟨gb508, 1, none⟩ = some (.float .f64 ((rd_T28 y503 (ji83)).f1)) := hS_
           refine norm_ (a' := ?_) ?_ ?_
           rotate_left
           ·simp only [putAll, Act.put, List.setIfInBounds_toArray, List.set_cons_zero, List.set_cons_succ]
            rfl
           refine one_ (i := 9) (N := none) #[true, true, true, true, true, true, true, true, true, true, false] rfl rfl (one_of HT_.out (by kernel_rfl)) (by decide) (fun K hK => ?_)
           have hs107 : w106.cell? ⟨gb514, 0, none⟩ = some (.float .f64 0) := (blk_cell BK514.out 0).trans rfl
           have hfs107 := blk_frozen BK514.out 0
           have hns107_0 := NB502_514.out
           have hns107_1 := NB508_514.out
           have hms107_0 := NB514_502.out
           have hms107_1 := NB514_508.out
           have hs108 : w106.cell? ⟨gb514, 1, none⟩ = some (.float .f64 0) := (blk_cell BK514.out 1).trans rfl
           have hfs108 := blk_frozen BK514.out 1
           have hns108_0 := NB502_514.out
           have hns108_1 := NB508_514.out
           have hms108_0 := NB514_502.out
           have hms108_1 := NB514_508.out
           refine skip_ (w1 := ?_) (by rfl) rfl ?_ ?_
           rotate_left
           ·go_simp
            rfl
           refine hK.out _ _ ⟨((cell_far (p := ⟨gb514, _, none⟩) NB502_514.out _).trans (((cell_far (p := ⟨gb514, _, none⟩) NB502_514.out _).trans (hHeld.1)))), ((cell_far (p := ⟨gb514, _, none⟩) NB502_514.out _).trans (((cell_far (p := ⟨gb514, _, none⟩) NB502_514.out _).trans (hHeld.2.1)))), ((cell_far (p := ⟨gb514, _, none⟩) NB508_514.out _).trans (((cell_far (p := ⟨gb514, _, none⟩) NB508_514.out _).trans (hHeld.2.2.1)))), ((cell_far (p := ⟨gb514, _, none⟩) NB508_514.out _).trans (((cell_far (p := ⟨gb514, _, none⟩) NB508_514.out _).trans (hHeld.2.2.2))))⟩ (fun hHeld => ?_)
           clear hK K
           refine pure_ (i := 10) (N := some 13) (v := ?_) (a' := ?_) #[true, true, true, true, true, true, true, true, true, true, true] rfl rfl (any_of HT_.out (by kernel_rfl)) (fun _ _ _ h => h) (Or.inl ⟨by rfl, ?_⟩) ?_ ?_
           rotate_left
           ·intro w'
            go_simp
            with_reducible rfl
           rotate_left
           ·simp only [Act.put, List.setIfInBounds_toArray, List.set_cons_zero, List.set_cons_succ, i64_w, i32_w]
            rfl
           refine done_ (done_of HT_.out (by kernel_rfl)) ?_
           have hnb109 := NB502_514.out
           have hnc109 := NB514_502.out
           have hcz110_0 : w106.cell? ⟨gb502, 0, none⟩ = some (.float .f64 (floatOfInt .f64 (wrap64 (t500 - 128)))) := (blk_cell BK502.out 0).trans rfl
           have hcz110_1 : w106.cell? ⟨gb502, 1, none⟩ = some (.float .f64 (floatOfInt .f64 (wrap64 (t501 - 128)))) := (blk_cell BK502.out 1).trans rfl
           have hfz110_0 := blk_frozen BK502.out 0
           have hfz110_1 := blk_frozen BK502.out 1
           go_upto_region 17 with (first | ((with_reducible refine gate_callee (f := 32) rfl ?_); refine goesL_ (some 111) rfl rfl Try.func32 (by kernel_rfl) rfl #[.agg #[.float .f64 (floatOfInt .f64 (wrap64 (t500 - 128))), .float .f64 (floatOfInt .f64 (wrap64 (t501 - 128)))], .agg #[.float .f64 0, .float .f64 0]] rfl gl ?_; (with_reducible refine (impl_PhOver.calls kj49 (floatOfInt .f64 (wrap64 (t500 - 128))) (floatOfInt .f64 (wrap64 (t501 - 128))) 0 0 _ _ HD88.out).mono ?_); rintro e w111 ⟨t515, t516, t517, hq_, rfl, hb⟩; refine ⟨_, rfl, ?_⟩; have HD89 := Aside0.mk hq_; clear hq_ HD88; have n0_ := Aside0.mk (Kd.R_below (by (with_reducible repeat (first | apply Kd.R_alloc | apply Kd.R_drewN | apply Kd.R_drew)); exact (Kd.R_mono (Kd.R_far (Kd.R_far (Kd.R_mono HO505.out (fun k_ hk => (⟨hk, hk.2.2⟩ : _ ∧ k_ ≠ gb514))) (fun _ hk => hk.2) (.float .f64 t511)) (fun _ hk => hk.2) (.float .f64 t512)) (fun _ h_ => h_.1))) hb); have n1_ := Aside0.mk (blk_below (g := gb502) (o := .cells #[.float .f64 (floatOfInt .f64 (wrap64 (t500 - 128))), .float .f64 (floatOfInt .f64 (wrap64 (t501 - 128)))] 28 (0, 0)) (by (with_reducible repeat (first | refine blk_drewN ?_ _ | refine blk_drew ?_ | refine blk_alloc ?_ _)); refine blk_far ?_ NB502_514.out _; refine blk_far ?_ NB502_514.out _; (with_reducible repeat (first | refine blk_drewN ?_ _ | refine blk_drew ?_ | refine blk_alloc ?_ _)); exact BK502.out) hb); have n2_ := Aside0.mk (blk_below (g := gb508) (o := .cells #[.float .f64 ((rd_T28 y503 (ji83)).f0), .float .f64 ((rd_T28 y503 (ji83)).f1)] 28 (0, 0)) (by (with_reducible repeat (first | refine blk_drewN ?_ _ | refine blk_drew ?_ | refine blk_alloc ?_ _)); refine blk_far ?_ NB508_514.out _; refine blk_far ?_ NB508_514.out _; (with_reducible repeat (first | refine blk_drewN ?_ _ | refine blk_drew ?_ | refine blk_alloc ?_ _)); exact BK508.out) hb); have n3_ := Aside0.mk (blk_below (g := gb514) (o := .cells #[.float .f64 t511, .float .f64 t512] 28 (0, 0)) (by (with_reducible repeat (first | refine blk_drewN ?_ _ | refine blk_drew ?_ | refine blk_alloc ?_ _)); refine blk_put (cs := #[.float .f64 t511, .float .f64 0]) ?_ 1 _ rfl; refine blk_put (cs := #[.float .f64 0, .float .f64 0]) ?_ 0 _ rfl; (with_reducible repeat (first | refine blk_drewN ?_ _ | refine blk_drew ?_ | refine blk_alloc ?_ _)); exact BK514.out) hb); have n4_ := Aside0.mk (below_step (bw3 HB.out GE502.out GE508.out GE514.out) hb); clear HO505; clear BK502; clear BK508; clear BK514; clear HB; have HO505 := n0_; have BK502 := n1_; have BK508 := n2_; have BK514 := n3_; have HB := n4_; clear n0_ n1_ n2_ n3_ n4_; (try clear hb); (try clear hb2); (try clear hk); (try clear hi)) | ((with_reducible refine gate_dst (N := 14) rfl ?_); (try (refine gate_guard (by rfl) ?_; dsimp only)); refine box_event ?hg (N := 14) ?hd (cs := #[.float .f64 0, .float .f64 0]) (t := 28) ?hr ?_; (case hd => rfl); (case hg => rfl); (case hr => first | (go_simp; done) | (go_simp; rfl)); intro gb518 hg w112 hbox hb; have n0_ := Aside0.mk (Kd.R_below (Kd.R_elderB (rk HO505.out) gb518 (Nat.le_of_eq hg.symm)) hb); have n1_ := Aside0.mk (bB BK502.out hb); have n2_ := Aside0.mk (bB BK508.out hb); have n3_ := Aside0.mk (bB BK514.out hb); have n4_ := Aside0.mk (below_step (bw3 HB.out GE502.out GE508.out GE514.out) hb); have n5_ := Aside0.mk (hbox); have n6_ := Aside0.mk ((by rw [hg]; exact (below_size (bw3 HB.out GE502.out GE508.out GE514.out)) : w.heap.size ≤ gb518)); have n7_ := Aside0.mk ((by rw [hg]; exact (below_size (bw3 HB.out GE502.out GE508.out GE514.out)) : w.heap.size ≤ gb518)); have n8_ := Aside0.mk ((by rw [hg]; exact Nat.ne_of_lt (bL BK502.out) : gb502 ≠ gb518)); have n9_ := Aside0.mk ((by rw [hg]; exact Nat.ne_of_gt (bL BK502.out) : gb518 ≠ gb502)); have n10_ := Aside0.mk ((by rw [hg]; exact Nat.ne_of_lt (bL BK508.out) : gb508 ≠ gb518)); have n11_ := Aside0.mk ((by rw [hg]; exact Nat.ne_of_gt (bL BK508.out) : gb518 ≠ gb508)); have n12_ := Aside0.mk ((by rw [hg]; exact Nat.ne_of_lt (bL BK514.out) : gb514 ≠ gb518)); have n13_ := Aside0.mk ((by rw [hg]; exact Nat.ne_of_gt (bL BK514.out) : gb518 ≠ gb514)); clear HO505; clear BK502; clear BK508; clear BK514; clear HB; have HO505 := n0_; have BK502 := n1_; have BK508 := n2_; have BK514 := n3_; have HB := n4_; have BK518 := n5_; have GW518 := n6_; have GE518 := n7_; have NB502_518 := n8_; have NB518_502 := n9_; have NB508_518 := n10_; have NB518_508 := n11_; have NB514_518 := n12_; have NB518_514 := n13_; clear n0_ n1_ n2_ n3_ n4_ n5_ n6_ n7_ n8_ n9_ n10_ n11_ n12_ n13_; clear hb hbox hg; have hnb113 := NB518_502.out; have hnc113 := NB502_518.out; have hnb114 := NB518_508.out; have hnc114 := NB508_518.out; have hnb115 := NB518_514.out; have hnc115 := NB514_518.out; have hcz116_0 : w112.cell? ⟨gb518, 0, none⟩ = some (.float .f64 0) := (blk_cell BK518.out 0).trans rfl; have hcz116_1 : w112.cell? ⟨gb518, 1, none⟩ = some (.float .f64 0) := (blk_cell BK518.out 1).trans rfl; have hfz116_0 := blk_frozen BK518.out 0; have hfz116_1 := blk_frozen BK518.out 1; have hcz117_0 : w112.cell? ⟨gb502, 0, none⟩ = some (.float .f64 (floatOfInt .f64 (wrap64 (t500 - 128)))) := (blk_cell BK502.out 0).trans rfl; have hcz117_1 : w112.cell? ⟨gb502, 1, none⟩ = some (.float .f64 (floatOfInt .f64 (wrap64 (t501 - 128)))) := (blk_cell BK502.out 1).trans rfl; have hfz117_0 := blk_frozen BK502.out 0; have hfz117_1 := blk_frozen BK502.out 1; obtain ⟨y519, hy519⟩ : ∃ y_ : List (S28), y_ = (([(⟨floatOfInt .f64 (wrap64 (t500 - 128)), floatOfInt .f64 (wrap64 (t501 - 128))⟩ : S28)] : List (S28))) := ⟨_, rfl⟩; have HD90 := Aside0.mk (show (impl_TurnAll.f kj49 y519 (([(⟨5, 0, 0, (⟨0, 0⟩ : S28)⟩ : S56), (⟨5, 0, 0, (⟨0, 0⟩ : S28)⟩ : S56)] : List (S56))) (fun bt525 => (if t513 = true then (if t517 = true then (False) else (∃ t535, impl_AlikePh.f kj49 (([(⟨t511, t512⟩ : S28)] : List (S28))) (([(⟨floatOfInt .f64 (wrap64 (t500 - 128)), floatOfInt .f64 (wrap64 (t501 - 128))⟩ : S28)] : List (S28))) = some t535 ∧ (if t535 = true then (if bt525.2 = true then (∃ t539, impl_AlikePh.f kj49 bt525.1 (([(⟨floatOfInt .f64 (wrap64 (t500 - 128)), floatOfInt .f64 (wrap64 (t501 - 128))⟩ : S28)] : List (S28))) = some t539 ∧ (t539 = true)) else (False)) else (False)))) else (False)))) from (by have H := HD89.out; first | (rw [hy519]; with_reducible exact H) | (obtain ⟨_, e_, H2_⟩ := H; subst e_; rw [hy519]; exact H2_) | with_reducible exact H | (rw [hy519]; exact H) | exact H)); clear HD89; have Ny519 := Aside0.mk hy519; clear hy519) | ((with_reducible refine gate_dst (N := 116) rfl ?_); (try (refine gate_guard (by rfl) ?_; dsimp only)); refine Kd.R_lit k28 _ 28 ?hg (N := 116) ?hd (xs := ([(⟨floatOfInt .f64 (wrap64 (t500 - 128)), floatOfInt .f64 (wrap64 (t501 - 128))⟩ : S28)] : List (S28))) (inner := [.float .f64 (floatOfInt .f64 (wrap64 (t500 - 128))), .float .f64 (floatOfInt .f64 (wrap64 (t501 - 128)))]) (ok := fun _ => True) (okp := fun _ => True) ?hr ?hp (fun _ hk => hk) trivial (Below.refl _ _) (Nat.le_refl _) (by simp) ?_; (case hd => rfl); (case hg => rfl); (case hr => first | (go_simp; done) | (go_simp; rfl)); (case hp => exact (Reps.c2 (show Kd.M k28 _ _ _ (⟨floatOfInt .f64 (wrap64 (t500 - 128)), floatOfInt .f64 (wrap64 (t501 - 128))⟩ : S28) [.float .f64 (floatOfInt .f64 (wrap64 (t500 - 128))), .float .f64 (floatOfInt .f64 (wrap64 (t501 - 128)))] from (k28_mkM _ _ _ (⟨floatOfInt .f64 (wrap64 (t500 - 128)), floatOfInt .f64 (wrap64 (t501 - 128))⟩ : S28) )) (Reps.none _ _))); intro v520 w118 ho119 hb hg_ hnew_; clear hg_ hnew_; (first | rw [← Ny519.out] at ho119 | (simp only [Int.reduceToNat] at ho119; rw [← Ny519.out] at ho119)); have n0_ := Aside0.mk (Kd.R_elder' (by (with_reducible repeat (first | apply Kd.R_alloc | apply Kd.R_drewN | apply Kd.R_drew)); exact (Kd.R_mono (Kd.R_far (Kd.R_far (Kd.R_mono HO505.out (fun k_ hk => (⟨hk, hk.2⟩ : _ ∧ k_ ≠ gb518))) (fun _ hk => hk.2) (.float .f64 t515)) (fun _ hk => hk.2) (.float .f64 t516)) (fun _ h_ => h_.1))) (Kd.R_base ho119) hb); have n1_ := Aside0.mk (Kd.R_lower (Kd.R_newB (Kd.R_newB (Kd.R_newB (Kd.R_newB (Kd.R_new' ho119 (Kd.R_lt (by (with_reducible repeat (first | apply Kd.R_alloc | apply Kd.R_drewN | apply Kd.R_drew)); exact (Kd.R_mono (Kd.R_far (Kd.R_far (Kd.R_mono HO505.out (fun k_ hk => (⟨hk, hk.2⟩ : _ ∧ k_ ≠ gb518))) (fun _ hk => hk.2) (.float .f64 t515)) (fun _ hk => hk.2) (.float .f64 t516)) (fun _ h_ => h_.1))))) (g := gb502) (o := .cells #[.float .f64 (floatOfInt .f64 (wrap64 (t500 - 128))), .float .f64 (floatOfInt .f64 (wrap64 (t501 - 128)))] 28 (0, 0)) (by (with_reducible repeat (first | refine blk_drewN ?_ _ | refine blk_drew ?_ | refine blk_alloc ?_ _)); refine blk_far ?_ NB502_518.out _; refine blk_far ?_ NB502_518.out _; (with_reducible repeat (first | refine blk_drewN ?_ _ | refine blk_drew ?_ | refine blk_alloc ?_ _)); exact BK502.out)) (g := gb508) (o := .cells #[.float .f64 ((rd_T28 y503 (ji83)).f0), .float .f64 ((rd_T28 y503 (ji83)).f1)] 28 (0, 0)) (by (with_reducible repeat (first | refine blk_drewN ?_ _ | refine blk_drew ?_ | refine blk_alloc ?_ _)); refine blk_far ?_ NB508_518.out _; refine blk_far ?_ NB508_518.out _; (with_reducible repeat (first | refine blk_drewN ?_ _ | refine blk_drew ?_ | refine blk_alloc ?_ _)); exact BK508.out)) (g := gb514) (o := .cells #[.float .f64 t511, .float .f64 t512] 28 (0, 0)) (by (with_reducible repeat (first | refine blk_drewN ?_ _ | refine blk_drew ?_ | refine blk_alloc ?_ _)); refine blk_far ?_ NB514_518.out _; refine blk_far ?_ NB514_518.out _; (with_reducible repeat (first | refine blk_drewN ?_ _ | refine blk_drew ?_ | refine blk_alloc ?_ _)); exact BK514.out)) (g := gb518) (o := .cells #[.float .f64 t515, .float .f64 t516] 28 (0, 0)) (by (with_reducible repeat (first | refine blk_drewN ?_ _ | refine blk_drew ?_ | refine blk_alloc ?_ _)); refine blk_put (cs := #[.float .f64 t515, .float .f64 0]) ?_ 1 _ rfl; refine blk_put (cs := #[.float .f64 0, .float .f64 0]) ?_ 0 _ rfl; (with_reducible repeat (first | refine blk_drewN ?_ _ | refine blk_drew ?_ | refine blk_alloc ?_ _)); exact BK518.out)) (below_size (bw4 HB.out GE502.out GE508.out GE514.out GE518.out))); have n2_ := Aside0.mk (blk_below (g := gb502) (o := .cells #[.float .f64 (floatOfInt .f64 (wrap64 (t500 - 128))), .float .f64 (floatOfInt .f64 (wrap64 (t501 - 128)))] 28 (0, 0)) (by (with_reducible repeat (first | refine blk_drewN ?_ _ | refine blk_drew ?_ | refine blk_alloc ?_ _)); refine blk_far ?_ NB502_518.out _; refine blk_far ?_ NB502_518.out _; (with_reducible repeat (first | refine blk_drewN ?_ _ | refine blk_drew ?_ | refine blk_alloc ?_ _)); exact BK502.out) hb); have n3_ := Aside0.mk (blk_below (g := gb508) (o := .cells #[.float .f64 ((rd_T28 y503 (ji83)).f0), .float .f64 ((rd_T28 y503 (ji83)).f1)] 28 (0, 0)) (by (with_reducible repeat (first | refine blk_drewN ?_ _ | refine blk_drew ?_ | refine blk_alloc ?_ _)); refine blk_far ?_ NB508_518.out _; refine blk_far ?_ NB508_518.out _; (with_reducible repeat (first | refine blk_drewN ?_ _ | refine blk_drew ?_ | refine blk_alloc ?_ _)); exact BK508.out) hb); have n4_ := Aside0.mk (blk_below (g := gb514) (o := .cells #[.float .f64 t511, .float .f64 t512] 28 (0, 0)) (by (with_reducible repeat (first | refine blk_drewN ?_ _ | refine blk_drew ?_ | refine blk_alloc ?_ _)); refine blk_far ?_ NB514_518.out _; refine blk_far ?_ NB514_518.out _; (with_reducible repeat (first | refine blk_drewN ?_ _ | refine blk_drew ?_ | refine blk_alloc ?_ _)); exact BK514.out) hb); have n5_ := Aside0.mk (blk_below (g := gb518) (o := .cells #[.float .f64 t515, .float .f64 t516] 28 (0, 0)) (by (with_reducible repeat (first | refine blk_drewN ?_ _ | refine blk_drew ?_ | refine blk_alloc ?_ _)); refine blk_put (cs := #[.float .f64 t515, .float .f64 0]) ?_ 1 _ rfl; refine blk_put (cs := #[.float .f64 0, .float .f64 0]) ?_ 0 _ rfl; (with_reducible repeat (first | refine blk_drewN ?_ _ | refine blk_drew ?_ | refine blk_alloc ?_ _)); exact BK518.out) hb); have n6_ := Aside0.mk (below_step (bw4 HB.out GE502.out GE508.out GE514.out GE518.out) hb); clear HO505; clear BK502; clear BK508; clear BK514; clear BK518; clear HB; have HO505 := n0_; have HO521 := n1_; have BK502 := n2_; have BK508 := n3_; have BK514 := n4_; have BK518 := n5_; have HB := n6_; clear n0_ n1_ n2_ n3_ n4_ n5_ n6_; clear hb ho119; obtain ⟨y522, hy522⟩ : ∃ y_ : List (S56), y_ = (([(⟨5, 0, 0, (⟨0, 0⟩ : S28)⟩ : S56), (⟨5, 0, 0, (⟨0, 0⟩ : S28)⟩ : S56)] : List (S56))) := ⟨_, rfl⟩; have HD91 := Aside0.mk (show (impl_TurnAll.f kj49 y519 y522 (fun bt525 => (if t513 = true then (if t517 = true then (False) else (∃ t535, impl_AlikePh.f kj49 (([(⟨t511, t512⟩ : S28)] : List (S28))) (([(⟨floatOfInt .f64 (wrap64 (t500 - 128)), floatOfInt .f64 (wrap64 (t501 - 128))⟩ : S28)] : List (S28))) = some t535 ∧ (if t535 = true then (if bt525.2 = true then (∃ t539, impl_AlikePh.f kj49 bt525.1 (([(⟨floatOfInt .f64 (wrap64 (t500 - 128)), floatOfInt .f64 (wrap64 (t501 - 128))⟩ : S28)] : List (S28))) = some t539 ∧ (t539 = true)) else (False)) else (False)))) else (False)))) from (by have H := HD90.out; first | (rw [hy522]; with_reducible exact H) | (obtain ⟨_, e_, H2_⟩ := H; subst e_; rw [hy522]; exact H2_) | with_reducible exact H | (rw [hy522]; exact H) | exact H)); clear HD90; have Ny522 := Aside0.mk hy522; clear hy522) | ((with_reducible refine gate_dst (N := 119) rfl ?_); (try (refine gate_guard (by rfl) ?_; dsimp only)); refine Kd.R_lit k56 _ 56 ?hg (N := 119) ?hd (xs := ([(⟨5, 0, 0, (⟨0, 0⟩ : S28)⟩ : S56), (⟨5, 0, 0, (⟨0, 0⟩ : S28)⟩ : S56)] : List (S56))) (inner := [.int .i64 5, .int .i64 0, .int .i64 0, .float .f64 0, .float .f64 0, .int .i64 5, .int .i64 0, .int .i64 0, .float .f64 0, .float .f64 0]) (ok := fun _ => True) (okp := fun _ => True) ?hr ?hp (fun _ hk => hk) trivial (Below.refl _ _) (Nat.le_refl _) (by simp) ?_; (case hd => rfl); (case hg => rfl); (case hr => first | (go_simp; done) | (go_simp; rfl)); (case hp => exact (Reps.c5 (show Kd.M k56 _ _ _ (⟨5, 0, 0, (⟨0, 0⟩ : S28)⟩ : S56) [.int .i64 5, .int .i64 0, .int .i64 0, .float .f64 0, .float .f64 0] from (k56_mkM _ _ _ (⟨5, 0, 0, (⟨0, 0⟩ : S28)⟩ : S56) )) (Reps.c5 (show Kd.M k56 _ _ _ (⟨5, 0, 0, (⟨0, 0⟩ : S28)⟩ : S56) [.int .i64 5, .int .i64 0, .int .i64 0, .float .f64 0, .float .f64 0] from (k56_mkM _ _ _ (⟨5, 0, 0, (⟨0, 0⟩ : S28)⟩ : S56) )) (Reps.none _ _)))); intro v523 w120 ho121 hb hg_ hnew_; clear hg_ hnew_; (first | rw [← Ny522.out] at ho121 | (simp only [Int.reduceToNat] at ho121; rw [← Ny522.out] at ho121)); have n0_ := Aside0.mk (Kd.R_below (rk HO505.out) hb); have n1_ := Aside0.mk (Kd.R_below (rk HO521.out) hb); have n2_ := Aside0.mk (Kd.R_lower ho121 (below_size (bw4 HB.out GE502.out GE508.out GE514.out GE518.out))); have n3_ := Aside0.mk (bB BK502.out hb); have n4_ := Aside0.mk (bB BK508.out hb); have n5_ := Aside0.mk (bB BK514.out hb); have n6_ := Aside0.mk (bB BK518.out hb); have n7_ := Aside0.mk (below_step (bw4 HB.out GE502.out GE508.out GE514.out GE518.out) hb); clear HO505; clear HO521; clear BK502; clear BK508; clear BK514; clear BK518; clear HB; have HO505 := n0_; have HO521 := n1_; have HO524 := n2_; have BK502 := n3_; have BK508 := n4_; have BK514 := n5_; have BK518 := n6_; have HB := n7_; clear n0_ n1_ n2_ n3_ n4_ n5_ n6_ n7_; clear hb ho121; obtain ⟨Ao122, co122, eo122⟩ := Kd.R_slice HO521.out; subst eo122; obtain ⟨Ao123, co123, eo123⟩ := Kd.R_slice HO524.out; subst eo123) | ((with_reducible refine gate_callee (f := 43) rfl ?_); refine goesL_ (some 120) rfl rfl Try.func43 (by kernel_rfl) rfl #[.slice Ao122 y519.length co122, .slice Ao123 y522.length co123] rfl gl ?_; (with_reducible refine (impl_TurnAll.calls kj49 _ _ y519 _ _ y522 _ _ ?side1 ?side2 ?side3 ?side4 HD91.out).mono ?_); (case side1 => exact ck (Kd.R_reads' HO521.out).2.2); (case side2 => exact (Kd.R_reads' HO521.out).2.1); (case side3 => exact ck (Kd.R_reads' HO524.out).2.2); (case side4 => exact (Kd.R_reads' HO524.out).2.1); rintro e w124 ⟨t525, t526, hq_, v527, rfl, ho0, hb⟩; refine ⟨_, rfl, ?_⟩; have HD92 := Aside0.mk hq_; clear hq_ HD91; have n0_ := Aside0.mk (Kd.R_elder' (rk HO505.out) (Kd.R_base ho0) hb); have n1_ := Aside0.mk (Kd.R_elder' (rk HO521.out) (Kd.R_base ho0) hb); have n2_ := Aside0.mk (Kd.R_below (rk HO524.out) hb); have n3_ := Aside0.mk (Kd.R_lower (Kd.R_newB (Kd.R_newB (Kd.R_newB (Kd.R_newB (Kd.R_new' (Kd.R_new' ho0 (Kd.R_lt (rk HO505.out))) (Kd.R_lt (rk HO521.out))) (g := gb502) (o := .cells #[.float .f64 (floatOfInt .f64 (wrap64 (t500 - 128))), .float .f64 (floatOfInt .f64 (wrap64 (t501 - 128)))] 28 (0, 0)) (bk BK502.out)) (g := gb508) (o := .cells #[.float .f64 ((rd_T28 y503 (ji83)).f0), .float .f64 ((rd_T28 y503 (ji83)).f1)] 28 (0, 0)) (bk BK508.out)) (g := gb514) (o := .cells #[.float .f64 t511, .float .f64 t512] 28 (0, 0)) (bk BK514.out)) (g := gb518) (o := .cells #[.float .f64 t515, .float .f64 t516] 28 (0, 0)) (bk BK518.out)) (below_size (bw4 HB.out GE502.out GE508.out GE514.out GE518.out))); have n4_ := Aside0.mk (bB BK502.out hb); have n5_ := Aside0.mk (bB BK508.out hb); have n6_ := Aside0.mk (bB BK514.out hb); have n7_ := Aside0.mk (bB BK518.out hb); have n8_ := Aside0.mk (below_step (bw4 HB.out GE502.out GE508.out GE514.out GE518.out) hb); clear HO505; clear HO521; clear HO524; clear BK502; clear BK508; clear BK514; clear BK518; clear HB; have HO505 := n0_; have HO521 := n1_; have HO524 := n2_; have HO528 := n3_; have BK502 := n4_; have BK508 := n5_; have BK514 := n6_; have BK518 := n7_; have HB := n8_; clear n0_ n1_ n2_ n3_ n4_ n5_ n6_ n7_ n8_; (try clear hb); (try clear hb2); (try clear hk); (try clear hi); (try clear ho0)))
           (try simp only [Act.put, List.setIfInBounds_toArray, List.set_cons_zero, List.set_cons_succ])
           have H := HD92.out
           clear HD92
           by_cases c125 : t513 = true
           ·subst c125
            have H1 : (if t517 = true then (False) else (∃ t535, impl_AlikePh.f kj49 (([(⟨t511, t512⟩ : S28)] : List (S28))) (([(⟨floatOfInt .f64 (wrap64 (t500 - 128)), floatOfInt .f64 (wrap64 (t501 - 128))⟩ : S28)] : List (S28))) = some t535 ∧ (if t535 = true then (if t526 = true then (∃ t539, impl_AlikePh.f kj49 t525 (([(⟨floatOfInt .f64 (wrap64 (t500 - 128)), floatOfInt .f64 (wrap64 (t501 - 128))⟩ : S28)] : List (S28))) = some t539 ∧ (t539 = true)) else (False)) else (False)))) := by rw [if_pos rfl] at H; exact H
            clear H
            have H := H1
            clear H1
            by_cases c126 : t517 = true
            ·subst c126
             have H1 : (False) := by rw [if_pos rfl] at H; exact H
             clear H
             have H := H1
             clear H1
             exact absurd H (by first | (simp; done) | ((repeat' split) <;> simp))
            ·replace c126 := Bool.eq_false_iff.mpr c126
             subst c126
             have H1 : (∃ t535, impl_AlikePh.f kj49 (([(⟨t511, t512⟩ : S28)] : List (S28))) (([(⟨floatOfInt .f64 (wrap64 (t500 - 128)), floatOfInt .f64 (wrap64 (t501 - 128))⟩ : S28)] : List (S28))) = some t535 ∧ (if t535 = true then (if t526 = true then (∃ t539, impl_AlikePh.f kj49 t525 (([(⟨floatOfInt .f64 (wrap64 (t500 - 128)), floatOfInt .f64 (wrap64 (t501 - 128))⟩ : S28)] : List (S28))) = some t539 ∧ (t539 = true)) else (False)) else (False))) := by rw [if_neg (show ¬ (false = true) by decide)] at H; exact H
             clear H
             have H := H1
             clear H1
             obtain ⟨y529, hy529⟩ : ∃ y_ : List (S28), y_ = (([(⟨t511, t512⟩ : S28)] : List (S28))) := ⟨_, rfl⟩
             replace H : (∃ t535, impl_AlikePh.f kj49 y529 (([(⟨floatOfInt .f64 (wrap64 (t500 - 128)), floatOfInt .f64 (wrap64 (t501 - 128))⟩ : S28)] : List (S28))) = some t535 ∧ (if t535 = true then (if t526 = true then (∃ t539, impl_AlikePh.f kj49 t525 (([(⟨floatOfInt .f64 (wrap64 (t500 - 128)), floatOfInt .f64 (wrap64 (t501 - 128))⟩ : S28)] : List (S28))) = some t539 ∧ (t539 = true)) else (False)) else (False))) := by first | (rw [hy529]; with_reducible exact H) | (obtain ⟨_, e_, H2_⟩ := H; subst e_; rw [hy529]; exact H2_) | with_reducible exact H | (rw [hy529]; exact H) | exact H
             have Ny529 := Aside0.mk hy529
             clear hy529
             obtain ⟨y532, hy532⟩ : ∃ y_ : List (S28), y_ = (([(⟨floatOfInt .f64 (wrap64 (t500 - 128)), floatOfInt .f64 (wrap64 (t501 - 128))⟩ : S28)] : List (S28))) := ⟨_, rfl⟩
             replace H : (∃ t535, impl_AlikePh.f kj49 y529 y532 = some t535 ∧ (if t535 = true then (if t526 = true then (∃ t539, impl_AlikePh.f kj49 t525 (([(⟨floatOfInt .f64 (wrap64 (t500 - 128)), floatOfInt .f64 (wrap64 (t501 - 128))⟩ : S28)] : List (S28))) = some t539 ∧ (t539 = true)) else (False)) else (False))) := by first | (rw [hy532]; with_reducible exact H) | (obtain ⟨_, e_, H2_⟩ := H; subst e_; rw [hy532]; exact H2_) | with_reducible exact H | (rw [hy532]; exact H) | exact H
             have Ny532 := Aside0.mk hy532
             clear hy532
             obtain ⟨t535, A1270, H⟩ := H
             replace H : (if t535 = true then (if t526 = true then (∃ t539, impl_AlikePh.f kj49 t525 (([(⟨floatOfInt .f64 (wrap64 (t500 - 128)), floatOfInt .f64 (wrap64 (t501 - 128))⟩ : S28)] : List (S28))) = some t539 ∧ (t539 = true)) else (False)) else (False)) := H
             have A127 := Aside0.mk A1270
             clear A1270
             by_cases c128 : t535 = true
             ·subst c128
              have H1 : (if t526 = true then (∃ t539, impl_AlikePh.f kj49 t525 (([(⟨floatOfInt .f64 (wrap64 (t500 - 128)), floatOfInt .f64 (wrap64 (t501 - 128))⟩ : S28)] : List (S28))) = some t539 ∧ (t539 = true)) else (False)) := by rw [if_pos rfl] at H; exact H
              clear H
              have H := H1
              clear H1
              by_cases c129 : t526 = true
              ·subst c129
               have H1 : (∃ t539, impl_AlikePh.f kj49 t525 (([(⟨floatOfInt .f64 (wrap64 (t500 - 128)), floatOfInt .f64 (wrap64 (t501 - 128))⟩ : S28)] : List (S28))) = some t539 ∧ (t539 = true)) := by rw [if_pos rfl] at H; exact H
               clear H
               have H := H1
               clear H1
               obtain ⟨y536, hy536⟩ : ∃ y_ : List (S28), y_ = (([(⟨floatOfInt .f64 (wrap64 (t500 - 128)), floatOfInt .f64 (wrap64 (t501 - 128))⟩ : S28)] : List (S28))) := ⟨_, rfl⟩
               replace H : (∃ t539, impl_AlikePh.f kj49 t525 y536 = some t539 ∧ (t539 = true)) := by first | (rw [hy536]; with_reducible exact H) | (obtain ⟨_, e_, H2_⟩ := H; subst e_; rw [hy536]; exact H2_) | with_reducible exact H | (rw [hy536]; exact H) | exact H
               have Ny536 := Aside0.mk hy536
               clear hy536
               obtain ⟨t539, A1300, H⟩ := H
               replace H : (t539 = true) := H
               have A130 := Aside0.mk A1300
               clear A1300
               have HT_ := Aside0.mk H
               clear H
               have hnb131 := NB514_502.out
               have hnc131 := NB502_514.out
               have hnb132 := NB514_508.out
               have hnc132 := NB508_514.out
               have hnb133 := NB514_518.out
               have hnc133 := NB518_514.out
               have hcz134_0 : w124.cell? ⟨gb514, 0, none⟩ = some (.float .f64 t511) := (blk_cell BK514.out 0).trans rfl
               have hcz134_1 : w124.cell? ⟨gb514, 1, none⟩ = some (.float .f64 t512) := (blk_cell BK514.out 1).trans rfl
               have hfz134_0 := blk_frozen BK514.out 0
               have hfz134_1 := blk_frozen BK514.out 1
               go_wp2_with (first | ((with_reducible refine gate_dst (N := 130) rfl ?_); (try (refine gate_guard (by rfl) ?_; dsimp only)); refine Kd.R_lit k28 _ 28 ?hg (N := 130) ?hd (xs := ([(⟨t511, t512⟩ : S28)] : List (S28))) (inner := [.float .f64 t511, .float .f64 t512]) (ok := fun _ => True) (okp := fun _ => True) ?hr ?hp (fun _ hk => hk) trivial (Below.refl _ _) (Nat.le_refl _) (by simp) ?_; (case hd => rfl); (case hg => rfl); (case hr => first | (go_simp; done) | (go_simp; rfl)); (case hp => exact (Reps.c2 (show Kd.M k28 _ _ _ (⟨t511, t512⟩ : S28) [.float .f64 t511, .float .f64 t512] from (k28_mkM _ _ _ (⟨t511, t512⟩ : S28) )) (Reps.none _ _))); intro v530 w135 ho136 hb hg_ hnew_; clear hg_ hnew_; (first | rw [← Ny529.out] at ho136 | (simp only [Int.reduceToNat] at ho136; rw [← Ny529.out] at ho136)); have n0_ := Aside0.mk (Kd.R_elder' (rk HO505.out) (Kd.R_base ho136) hb); have n1_ := Aside0.mk (Kd.R_elder' (rk HO521.out) (Kd.R_base ho136) hb); have n2_ := Aside0.mk (Kd.R_below (rk HO524.out) hb); have n3_ := Aside0.mk (Kd.R_elder' (rk HO528.out) (Kd.R_base ho136) hb); have n4_ := Aside0.mk (Kd.R_lower (Kd.R_newB (Kd.R_newB (Kd.R_newB (Kd.R_newB (Kd.R_new' (Kd.R_new' (Kd.R_new' ho136 (Kd.R_lt (rk HO505.out))) (Kd.R_lt (rk HO521.out))) (Kd.R_lt (rk HO528.out))) (g := gb502) (o := .cells #[.float .f64 (floatOfInt .f64 (wrap64 (t500 - 128))), .float .f64 (floatOfInt .f64 (wrap64 (t501 - 128)))] 28 (0, 0)) (bk BK502.out)) (g := gb508) (o := .cells #[.float .f64 ((rd_T28 y503 (ji83)).f0), .float .f64 ((rd_T28 y503 (ji83)).f1)] 28 (0, 0)) (bk BK508.out)) (g := gb514) (o := .cells #[.float .f64 t511, .float .f64 t512] 28 (0, 0)) (bk BK514.out)) (g := gb518) (o := .cells #[.float .f64 t515, .float .f64 t516] 28 (0, 0)) (bk BK518.out)) (below_size (bw4 HB.out GE502.out GE508.out GE514.out GE518.out))); have n5_ := Aside0.mk (bB BK502.out hb); have n6_ := Aside0.mk (bB BK508.out hb); have n7_ := Aside0.mk (bB BK514.out hb); have n8_ := Aside0.mk (bB BK518.out hb); have n9_ := Aside0.mk (below_step (bw4 HB.out GE502.out GE508.out GE514.out GE518.out) hb); clear HO505; clear HO521; clear HO524; clear HO528; clear BK502; clear BK508; clear BK514; clear BK518; clear HB; have HO505 := n0_; have HO521 := n1_; have HO524 := n2_; have HO528 := n3_; have HO531 := n4_; have BK502 := n5_; have BK508 := n6_; have BK514 := n7_; have BK518 := n8_; have HB := n9_; clear n0_ n1_ n2_ n3_ n4_ n5_ n6_ n7_ n8_ n9_; clear hb ho136; have hnb137 := NB502_508.out; have hnc137 := NB508_502.out; have hnb138 := NB502_518.out; have hnc138 := NB518_502.out; have hcz139_0 : w135.cell? ⟨gb502, 0, none⟩ = some (.float .f64 (floatOfInt .f64 (wrap64 (t500 - 128)))) := (blk_cell BK502.out 0).trans rfl; have hcz139_1 : w135.cell? ⟨gb502, 1, none⟩ = some (.float .f64 (floatOfInt .f64 (wrap64 (t501 - 128)))) := (blk_cell BK502.out 1).trans rfl; have hfz139_0 := blk_frozen BK502.out 0; have hfz139_1 := blk_frozen BK502.out 1) | ((with_reducible refine gate_dst (N := 132) rfl ?_); (try (refine gate_guard (by rfl) ?_; dsimp only)); refine Kd.R_lit k28 _ 28 ?hg (N := 132) ?hd (xs := ([(⟨floatOfInt .f64 (wrap64 (t500 - 128)), floatOfInt .f64 (wrap64 (t501 - 128))⟩ : S28)] : List (S28))) (inner := [.float .f64 (floatOfInt .f64 (wrap64 (t500 - 128))), .float .f64 (floatOfInt .f64 (wrap64 (t501 - 128)))]) (ok := fun _ => True) (okp := fun _ => True) ?hr ?hp (fun _ hk => hk) trivial (Below.refl _ _) (Nat.le_refl _) (by simp) ?_; (case hd => rfl); (case hg => rfl); (case hr => first | (go_simp; done) | (go_simp; rfl)); (case hp => exact (Reps.c2 (show Kd.M k28 _ _ _ (⟨floatOfInt .f64 (wrap64 (t500 - 128)), floatOfInt .f64 (wrap64 (t501 - 128))⟩ : S28) [.float .f64 (floatOfInt .f64 (wrap64 (t500 - 128))), .float .f64 (floatOfInt .f64 (wrap64 (t501 - 128)))] from (k28_mkM _ _ _ (⟨floatOfInt .f64 (wrap64 (t500 - 128)), floatOfInt .f64 (wrap64 (t501 - 128))⟩ : S28) )) (Reps.none _ _))); intro v533 w140 ho141 hb hg_ hnew_; clear hg_ hnew_; (first | rw [← Ny532.out] at ho141 | (simp only [Int.reduceToNat] at ho141; rw [← Ny532.out] at ho141)); have n0_ := Aside0.mk (Kd.R_elder' (rk HO505.out) (Kd.R_base ho141) hb); have n1_ := Aside0.mk (Kd.R_elder' (rk HO521.out) (Kd.R_base ho141) hb); have n2_ := Aside0.mk (Kd.R_below (rk HO524.out) hb); have n3_ := Aside0.mk (Kd.R_elder' (rk HO528.out) (Kd.R_base ho141) hb); have n4_ := Aside0.mk (Kd.R_elder' (rk HO531.out) (Kd.R_base ho141) hb); have n5_ := Aside0.mk (Kd.R_lower (Kd.R_newB (Kd.R_newB (Kd.R_newB (Kd.R_newB (Kd.R_new' (Kd.R_new' (Kd.R_new' (Kd.R_new' ho141 (Kd.R_lt (rk HO505.out))) (Kd.R_lt (rk HO521.out))) (Kd.R_lt (rk HO528.out))) (Kd.R_lt (rk HO531.out))) (g := gb502) (o := .cells #[.float .f64 (floatOfInt .f64 (wrap64 (t500 - 128))), .float .f64 (floatOfInt .f64 (wrap64 (t501 - 128)))] 28 (0, 0)) (bk BK502.out)) (g := gb508) (o := .cells #[.float .f64 ((rd_T28 y503 (ji83)).f0), .float .f64 ((rd_T28 y503 (ji83)).f1)] 28 (0, 0)) (bk BK508.out)) (g := gb514) (o := .cells #[.float .f64 t511, .float .f64 t512] 28 (0, 0)) (bk BK514.out)) (g := gb518) (o := .cells #[.float .f64 t515, .float .f64 t516] 28 (0, 0)) (bk BK518.out)) (below_size (bw4 HB.out GE502.out GE508.out GE514.out GE518.out))); have n6_ := Aside0.mk (bB BK502.out hb); have n7_ := Aside0.mk (bB BK508.out hb); have n8_ := Aside0.mk (bB BK514.out hb); have n9_ := Aside0.mk (bB BK518.out hb); have n10_ := Aside0.mk (below_step (bw4 HB.out GE502.out GE508.out GE514.out GE518.out) hb); clear HO505; clear HO521; clear HO524; clear HO528; clear HO531; clear BK502; clear BK508; clear BK514; clear BK518; clear HB; have HO505 := n0_; have HO521 := n1_; have HO524 := n2_; have HO528 := n3_; have HO531 := n4_; have HO534 := n5_; have BK502 := n6_; have BK508 := n7_; have BK514 := n8_; have BK518 := n9_; have HB := n10_; clear n0_ n1_ n2_ n3_ n4_ n5_ n6_ n7_ n8_ n9_ n10_; clear hb ho141; obtain ⟨Ao142, co142, eo142⟩ := Kd.R_slice HO531.out; subst eo142; obtain ⟨Ao143, co143, eo143⟩ := Kd.R_slice HO534.out; subst eo143) | (go_at_call 30; (with_reducible refine (impl_AlikePh.calls kj49 _ _ y529 _ _ y532 true _ ?side1 ?side2 ?side3 ?side4 A127.out).mono ?_); (case side1 => exact ck (Kd.R_reads' HO531.out).2.2); (case side2 => exact (Kd.R_reads' HO531.out).2.1); (case side3 => exact ck (Kd.R_reads' HO534.out).2.2); (case side4 => exact (Kd.R_reads' HO534.out).2.1); rintro e w144 ⟨rfl, hb⟩; have n0_ := Aside0.mk (Kd.R_below (rk HO505.out) hb); have n1_ := Aside0.mk (Kd.R_below (rk HO521.out) hb); have n2_ := Aside0.mk (Kd.R_below (rk HO524.out) hb); have n3_ := Aside0.mk (Kd.R_below (rk HO528.out) hb); have n4_ := Aside0.mk (Kd.R_below (rk HO531.out) hb); have n5_ := Aside0.mk (Kd.R_below (rk HO534.out) hb); have n6_ := Aside0.mk (bB BK502.out hb); have n7_ := Aside0.mk (bB BK508.out hb); have n8_ := Aside0.mk (bB BK514.out hb); have n9_ := Aside0.mk (bB BK518.out hb); have n10_ := Aside0.mk (below_step (bw4 HB.out GE502.out GE508.out GE514.out GE518.out) hb); clear HO505; clear HO521; clear HO524; clear HO528; clear HO531; clear HO534; clear BK502; clear BK508; clear BK514; clear BK518; clear HB; have HO505 := n0_; have HO521 := n1_; have HO524 := n2_; have HO528 := n3_; have HO531 := n4_; have HO534 := n5_; have BK502 := n6_; have BK508 := n7_; have BK514 := n8_; have BK518 := n9_; have HB := n10_; clear n0_ n1_ n2_ n3_ n4_ n5_ n6_ n7_ n8_ n9_ n10_; (try clear hb); (try clear hb2); (try clear hk); (try clear hi); have hcz145_0 : w144.cell? ⟨gb502, 0, none⟩ = some (.float .f64 (floatOfInt .f64 (wrap64 (t500 - 128)))) := (blk_cell BK502.out 0).trans rfl; have hcz145_1 : w144.cell? ⟨gb502, 1, none⟩ = some (.float .f64 (floatOfInt .f64 (wrap64 (t501 - 128)))) := (blk_cell BK502.out 1).trans rfl; have hfz145_0 := blk_frozen BK502.out 0; have hfz145_1 := blk_frozen BK502.out 1) | ((with_reducible refine gate_dst (N := 141) rfl ?_); (try (refine gate_guard (by rfl) ?_; dsimp only)); refine Kd.R_lit k28 _ 28 ?hg (N := 141) ?hd (xs := ([(⟨floatOfInt .f64 (wrap64 (t500 - 128)), floatOfInt .f64 (wrap64 (t501 - 128))⟩ : S28)] : List (S28))) (inner := [.float .f64 (floatOfInt .f64 (wrap64 (t500 - 128))), .float .f64 (floatOfInt .f64 (wrap64 (t501 - 128)))]) (ok := fun _ => True) (okp := fun _ => True) ?hr ?hp (fun _ hk => hk) trivial (Below.refl _ _) (Nat.le_refl _) (by simp) ?_; (case hd => rfl); (case hg => rfl); (case hr => first | (go_simp; done) | (go_simp; rfl)); (case hp => exact (Reps.c2 (show Kd.M k28 _ _ _ (⟨floatOfInt .f64 (wrap64 (t500 - 128)), floatOfInt .f64 (wrap64 (t501 - 128))⟩ : S28) [.float .f64 (floatOfInt .f64 (wrap64 (t500 - 128))), .float .f64 (floatOfInt .f64 (wrap64 (t501 - 128)))] from (k28_mkM _ _ _ (⟨floatOfInt .f64 (wrap64 (t500 - 128)), floatOfInt .f64 (wrap64 (t501 - 128))⟩ : S28) )) (Reps.none _ _))); intro v537 w146 ho147 hb hg_ hnew_; clear hg_ hnew_; (first | rw [← Ny536.out] at ho147 | (simp only [Int.reduceToNat] at ho147; rw [← Ny536.out] at ho147)); have n0_ := Aside0.mk (Kd.R_elder' (rk HO505.out) (Kd.R_base ho147) hb); have n1_ := Aside0.mk (Kd.R_elder' (rk HO521.out) (Kd.R_base ho147) hb); have n2_ := Aside0.mk (Kd.R_below (rk HO524.out) hb); have n3_ := Aside0.mk (Kd.R_elder' (rk HO528.out) (Kd.R_base ho147) hb); have n4_ := Aside0.mk (Kd.R_elder' (rk HO531.out) (Kd.R_base ho147) hb); have n5_ := Aside0.mk (Kd.R_elder' (rk HO534.out) (Kd.R_base ho147) hb); have n6_ := Aside0.mk (Kd.R_lower (Kd.R_newB (Kd.R_newB (Kd.R_newB (Kd.R_newB (Kd.R_new' (Kd.R_new' (Kd.R_new' (Kd.R_new' (Kd.R_new' ho147 (Kd.R_lt (rk HO505.out))) (Kd.R_lt (rk HO521.out))) (Kd.R_lt (rk HO528.out))) (Kd.R_lt (rk HO531.out))) (Kd.R_lt (rk HO534.out))) (g := gb502) (o := .cells #[.float .f64 (floatOfInt .f64 (wrap64 (t500 - 128))), .float .f64 (floatOfInt .f64 (wrap64 (t501 - 128)))] 28 (0, 0)) (bk BK502.out)) (g := gb508) (o := .cells #[.float .f64 ((rd_T28 y503 (ji83)).f0), .float .f64 ((rd_T28 y503 (ji83)).f1)] 28 (0, 0)) (bk BK508.out)) (g := gb514) (o := .cells #[.float .f64 t511, .float .f64 t512] 28 (0, 0)) (bk BK514.out)) (g := gb518) (o := .cells #[.float .f64 t515, .float .f64 t516] 28 (0, 0)) (bk BK518.out)) (below_size (bw4 HB.out GE502.out GE508.out GE514.out GE518.out))); have n7_ := Aside0.mk (bB BK502.out hb); have n8_ := Aside0.mk (bB BK508.out hb); have n9_ := Aside0.mk (bB BK514.out hb); have n10_ := Aside0.mk (bB BK518.out hb); have n11_ := Aside0.mk (below_step (bw4 HB.out GE502.out GE508.out GE514.out GE518.out) hb); clear HO505; clear HO521; clear HO524; clear HO528; clear HO531; clear HO534; clear BK502; clear BK508; clear BK514; clear BK518; clear HB; have HO505 := n0_; have HO521 := n1_; have HO524 := n2_; have HO528 := n3_; have HO531 := n4_; have HO534 := n5_; have HO538 := n6_; have BK502 := n7_; have BK508 := n8_; have BK514 := n9_; have BK518 := n10_; have HB := n11_; clear n0_ n1_ n2_ n3_ n4_ n5_ n6_ n7_ n8_ n9_ n10_ n11_; clear hb ho147; obtain ⟨Ao148, co148, eo148⟩ := Kd.R_slice HO528.out; subst eo148; obtain ⟨Ao149, co149, eo149⟩ := Kd.R_slice HO538.out; subst eo149) | (go_at_call 30; (with_reducible refine (impl_AlikePh.calls kj49 _ _ t525 _ _ y536 t539 _ ?side1 ?side2 ?side3 ?side4 A130.out).mono ?_); (case side1 => exact ck (Kd.R_reads' HO528.out).2.2); (case side2 => exact (Kd.R_reads' HO528.out).2.1); (case side3 => exact ck (Kd.R_reads' HO538.out).2.2); (case side4 => exact (Kd.R_reads' HO538.out).2.1); rintro e w150 ⟨rfl, hb⟩; have n0_ := Aside0.mk (Kd.R_below (rk HO505.out) hb); have n1_ := Aside0.mk (Kd.R_below (rk HO521.out) hb); have n2_ := Aside0.mk (Kd.R_below (rk HO524.out) hb); have n3_ := Aside0.mk (Kd.R_below (rk HO528.out) hb); have n4_ := Aside0.mk (Kd.R_below (rk HO531.out) hb); have n5_ := Aside0.mk (Kd.R_below (rk HO534.out) hb); have n6_ := Aside0.mk (Kd.R_below (rk HO538.out) hb); have n7_ := Aside0.mk (bB BK502.out hb); have n8_ := Aside0.mk (bB BK508.out hb); have n9_ := Aside0.mk (bB BK514.out hb); have n10_ := Aside0.mk (bB BK518.out hb); have n11_ := Aside0.mk (below_step (bw4 HB.out GE502.out GE508.out GE514.out GE518.out) hb); clear HO505; clear HO521; clear HO524; clear HO528; clear HO531; clear HO534; clear HO538; clear BK502; clear BK508; clear BK514; clear BK518; clear HB; have HO505 := n0_; have HO521 := n1_; have HO524 := n2_; have HO528 := n3_; have HO531 := n4_; have HO534 := n5_; have HO538 := n6_; have BK502 := n7_; have BK508 := n8_; have BK514 := n9_; have BK518 := n10_; have HB := n11_; clear n0_ n1_ n2_ n3_ n4_ n5_ n6_ n7_ n8_ n9_ n10_ n11_; (try clear hb); (try clear hb2); (try clear hk); (try clear hi)))
               go_ret
               (try rw [HT_.out])
               (try simp only [HT_.out])
               exact ⟨by first | rfl | (simp [errW_none, errW_some] <;> rfl) | (simp only [← hji83]; first | rfl | (simp [errW_none, errW_some] <;> rfl)) | (simp [*, errW_none, errW_some] <;> rfl), bw4 HB.out GE502.out GE508.out GE514.out GE518.out⟩
              ·replace c129 := Bool.eq_false_iff.mpr c129
               subst c129
               have H1 : (False) := by rw [if_neg (show ¬ (false = true) by decide)] at H; exact H
               clear H
               have H := H1
               clear H1
               exact absurd H (by first | (simp; done) | ((repeat' split) <;> simp))
             ·replace c128 := Bool.eq_false_iff.mpr c128
              subst c128
              have H1 : (False) := by rw [if_neg (show ¬ (false = true) by decide)] at H; exact H
              clear H
              have H := H1
              clear H1
              exact absurd H (by first | (simp; done) | ((repeat' split) <;> simp))
           ·replace c125 := Bool.eq_false_iff.mpr c125
            subst c125
            have H1 : (False) := by rw [if_neg (show ¬ (false = true) by decide)] at H; exact H
            clear H
            have H := H1
            clear H1
            exact absurd H (by first | (simp; done) | ((repeat' split) <;> simp))
          ·rw [if_neg c85] at H
           exact absurd H (by simp)
         ·rw [if_neg c84] at H
          exact absurd H (by simp)


end Go.Proofs.Ythjlapmjpjpgeaa.DX
