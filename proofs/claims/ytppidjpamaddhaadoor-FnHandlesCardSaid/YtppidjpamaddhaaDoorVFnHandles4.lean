/- What the Go functions that the law FnHandles reaches compute, as plain Lean functions, and that their calls come to just that. Conditions: those that each theorem states. Written by the session's program. -/
import Derived.Test.YtppidjpamaddhaaDoorVFnHandlesB
import Derived.Test.YtppidjpamaddhaaDoorVFnHandles3
namespace Go.Proofs.YtppidjpamaddhaaDoor.H
open Go.RowKit Go.Proofs.YtppidjpamaddhaaDoorW.PrintWords Go.Proofs.YtppidjpamaddhaaDoorW.PrintLast Go.Proofs.YtppidjpamaddhaaDoorW.PrintMore
attribute [local go_sem] max2_int min2_int max_two min_two max_three min_three max_four min_four   -- for this text's walks alone
set_option linter.unusedVariables false
set_option linter.unusedSimpArgs false

set_option maxHeartbeats 8000000 in
set_option maxRecDepth 100000 in
theorem laws_FnHandles.calls (k : Nat) (A0 : Option Addr) (c0 : Nat) (l0 : List Int) (w : World) (hr0 : Kd.C (Kd.int .u8) w A0 l0.length l0) (hc0 : l0.length ≤ c0) (h : laws_FnHandles.f k l0 = some true) :
  Calls Tryd.prog 4 #[.slice A0 l0.length c0] w fun e w' => e = .returned (.bool true) ∧ Below w.heap.size w w' := by
 have hu29 := Tryd.underlying29
 have HR0 := Aside0.mk hr0
 have HC0 := Aside0.mk hc0
 clear hr0 hc0
 have HB := Aside0.mk (Below.refl w.heap.size w)
 have H : ((laws_big.f l0).bind fun t229 => (if t229 = true then (some true) else ((laws_at.f l0 0).bind fun t230 => ((impl_NewArena.f k (wrap64 (1 + (Int.tmod t230 4)))).bind fun bt231 => (if bt231.2.2 = true then (laws_FnHandles.l0 k l0 (([] : List Int)) (([] : List Int)) 0 bt231.1 bt231.2.1) else (some false)))))) = some true := h
 clear h
 replace H := Option.bind_eq_some_iff.mp H
 obtain ⟨t229, A20, H⟩ := H
 replace H : (if t229 = true then (some true) else ((laws_at.f l0 0).bind fun t230 => ((impl_NewArena.f k (wrap64 (1 + (Int.tmod t230 4)))).bind fun bt231 => (if bt231.2.2 = true then (laws_FnHandles.l0 k l0 (([] : List Int)) (([] : List Int)) 0 bt231.1 bt231.2.1) else (some false))))) = some true := H
 have A2 := Aside0.mk A20
 clear A20
 by_cases c3 : t229 = true
 ·subst c3
  have H1 : (some true) = some true := by rfl
  clear H
  have H := H1
  clear H1
  clear H
  go_enter Tryd.func4, Tryd.ntmps4
  go_wp2_with (first | ((with_reducible refine gate_callee (f := 7) rfl ?_); refine goesL_ (some 20) rfl rfl Tryd.func7 (by kernel_rfl) rfl #[.slice A0 l0.length c0] rfl (by (try simp only [List.map_toArray, List.map_cons, List.map_nil]); first | done | rfl | (simp only [List.length_drop, List.length_take]; rfl)) ?_; (with_reducible refine (laws_big.calls _ _ l0 true _ ?side1 ?side2 A2.out).mono ?_); (case side1 => repeat (first | exact HR0.out | (with_reducible refine Kd.C_alloc ?_ _) | (with_reducible refine Kd.C_drewN ?_ _) | (with_reducible refine Kd.C_drew ?_))); (case side2 => exact HC0.out); rintro e w' ⟨rfl, ⟨nd, rfl⟩⟩; refine ⟨_, rfl, ?_⟩))
  go_ret
  (try rw [HT_.out])
  (try simp only [HT_.out])
  exact ⟨by first | rfl | (simp [errW_none, errW_some] <;> rfl) | (simp [*, errW_none, errW_some] <;> rfl), by repeat (first | (with_reducible first | exact HB.out | apply below_alloc | apply pw_below_drewN | apply below_drew1) | exact HB.out)⟩
 ·replace c3 := Bool.eq_false_iff.mpr c3
  subst c3
  have H1 : ((laws_at.f l0 0).bind fun t230 => ((impl_NewArena.f k (wrap64 (1 + (Int.tmod t230 4)))).bind fun bt231 => (if bt231.2.2 = true then (laws_FnHandles.l0 k l0 (([] : List Int)) (([] : List Int)) 0 bt231.1 bt231.2.1) else (some false)))) = some true := by rw [if_neg (show ¬ (false = true) by decide)] at H; exact H
  clear H
  have H := H1
  clear H1
  replace H := Option.bind_eq_some_iff.mp H
  obtain ⟨t230, A40, H⟩ := H
  replace H : ((impl_NewArena.f k (wrap64 (1 + (Int.tmod t230 4)))).bind fun bt231 => (if bt231.2.2 = true then (laws_FnHandles.l0 k l0 (([] : List Int)) (([] : List Int)) 0 bt231.1 bt231.2.1) else (some false))) = some true := H
  have A4 := Aside0.mk A40
  clear A40
  replace H := Option.bind_eq_some_iff.mp H
  obtain ⟨⟨t231, t234, t237⟩, A50, H⟩ := H
  replace H : (if t237 = true then (laws_FnHandles.l0 k l0 (([] : List Int)) (([] : List Int)) 0 t231 t234) else (some false)) = some true := H
  have A5 := Aside0.mk A50
  clear A50
  by_cases c6 : t237 = true
  ·subst c6
   have H1 : (laws_FnHandles.l0 k l0 (([] : List Int)) (([] : List Int)) 0 t231 t234) = some true := by rw [if_pos rfl] at H; exact H
   clear H
   have H := H1
   clear H1
   obtain ⟨y239, hy239⟩ : ∃ y_ : List Int, y_ = (([] : List Int)) := ⟨_, rfl⟩
   replace H : (laws_FnHandles.l0 k l0 y239 (([] : List Int)) 0 t231 t234) = some true := by first | (rw [hy239]; with_reducible exact H) | (have H2_ := (Option.bind_some _ _).symm.trans H; rw [hy239]; with_reducible exact H2_) | (have H2_ := (Option.bind_some _ _).symm.trans H; with_reducible exact H2_) | with_reducible exact H | (rw [hy239]; exact H) | exact H
   have Ny239 := Aside0.mk hy239
   clear hy239
   obtain ⟨y242, hy242⟩ : ∃ y_ : List Int, y_ = (([] : List Int)) := ⟨_, rfl⟩
   replace H : (laws_FnHandles.l0 k l0 y239 y242 0 t231 t234) = some true := by first | (rw [hy242]; with_reducible exact H) | (have H2_ := (Option.bind_some _ _).symm.trans H; rw [hy242]; with_reducible exact H2_) | (have H2_ := (Option.bind_some _ _).symm.trans H; with_reducible exact H2_) | with_reducible exact H | (rw [hy242]; exact H) | exact H
   have Ny242 := Aside0.mk hy242
   clear hy242
   have H' := Aside0.mk H
   clear H
   go_enter Tryd.func4, Tryd.ntmps4
   go_wp2_with (first | ((with_reducible refine gate_callee (f := 7) rfl ?_); refine goesL_ (some 20) rfl rfl Tryd.func7 (by kernel_rfl) rfl #[.slice A0 l0.length c0] rfl (by (try simp only [List.map_toArray, List.map_cons, List.map_nil]); first | done | rfl | (simp only [List.length_drop, List.length_take]; rfl)) ?_; (with_reducible refine (laws_big.calls _ _ l0 false _ ?side1 ?side2 A2.out).mono ?_); (case side1 => repeat (first | exact HR0.out | (with_reducible refine Kd.C_alloc ?_ _) | (with_reducible refine Kd.C_drewN ?_ _) | (with_reducible refine Kd.C_drew ?_))); (case side2 => exact HC0.out); rintro e w' ⟨rfl, ⟨nd, rfl⟩⟩; refine ⟨_, rfl, ?_⟩) | ((with_reducible refine gate_callee (f := 9) rfl ?_); refine goesL_ (some 23) rfl rfl Tryd.func9 (by kernel_rfl) rfl #[.slice A0 l0.length c0, .int .i64 0] rfl (by (try simp only [List.map_toArray, List.map_cons, List.map_nil]); first | done | rfl | (simp only [List.length_drop, List.length_take]; rfl)) ?_; (with_reducible refine (laws_at.calls _ _ l0 0 t230 _ ?side1 ?side2 A4.out).mono ?_); (case side1 => repeat (first | exact HR0.out | (with_reducible refine Kd.C_alloc ?_ _) | (with_reducible refine Kd.C_drewN ?_ _) | (with_reducible refine Kd.C_drew ?_))); (case side2 => exact HC0.out); rintro e w' ⟨rfl, ⟨nd, rfl⟩⟩; refine ⟨_, rfl, ?_⟩) | ((with_reducible refine gate_callee (f := 8) rfl ?_); refine goesL_ (some 26) rfl rfl Tryd.func8 (by kernel_rfl) rfl #[.int .i64 (wrap64 (1 + (Int.tmod t230 4)))] rfl (by (try simp only [List.map_toArray, List.map_cons, List.map_nil]); first | done | rfl | (simp only [List.length_drop, List.length_take]; rfl)) ?_; (with_reducible refine (impl_NewArena.calls k (wrap64 (1 + (Int.tmod t230 4))) t231 t234 true _ A5.out).mono ?_); rintro e w7 ⟨v232, v235, rfl, ho0, ho1, hb⟩; refine ⟨_, rfl, ?_⟩; have n0_ := Aside0.mk (Kd.R_lower ho0 (below_size (by repeat (first | (with_reducible first | exact HB.out | apply below_alloc | apply pw_below_drewN | apply below_drew1) | exact HB.out)))); have n1_ := Aside0.mk (Kd.R_lower ho1 (below_size (by repeat (first | (with_reducible first | exact HB.out | apply below_alloc | apply pw_below_drewN | apply below_drew1) | exact HB.out)))); have n2_ := Aside0.mk (below_step (by repeat (first | (with_reducible first | exact HB.out | apply below_alloc | apply pw_below_drewN | apply below_drew1) | exact HB.out)) hb); clear HB; have HO233 := n0_; have HO236 := n1_; have HB := n2_; clear n0_ n1_ n2_; (try clear hb); (try clear hb2); (try clear hk); (try clear hi); (try clear ho0); (try clear ho1)) | ((with_reducible refine gate_dst (N := 3) rfl ?_); (try (refine gate_guard (by rfl) ?_; dsimp only)); refine box_event ?hg (N := 3) ?hd (cs := #[.slice none 0 0, .slice none 0 0]) (t := 29) ?hr ?_; (case hd => rfl); (case hg => rfl); (case hr => first | (go_simp; done) | (go_simp; rfl)); intro gb238 hg w8 hbox hb; have n0_ := Aside0.mk (Kd.R_below (by (with_reducible repeat (first | apply Kd.R_alloc | apply Kd.R_drewN | apply Kd.R_drew)); exact HO233.out) hb); have n1_ := Aside0.mk (Kd.R_below (by (with_reducible repeat (first | apply Kd.R_alloc | apply Kd.R_drewN | apply Kd.R_drew)); exact HO236.out) hb); have n2_ := Aside0.mk (below_step (by repeat (first | (with_reducible first | exact HB.out | apply below_alloc | apply pw_below_drewN | apply below_drew1) | exact HB.out)) hb); have n3_ := Aside0.mk (hbox); have n4_ := Aside0.mk ((by rw [hg]; exact (below_size (by repeat (first | (with_reducible first | exact HB.out | apply below_alloc | apply pw_below_drewN | apply below_drew1) | exact HB.out))) : w.heap.size ≤ gb238)); have n5_ := Aside0.mk ((by rw [hg]; exact (below_size (by repeat (first | (with_reducible first | exact HB.out | apply below_alloc | apply pw_below_drewN | apply below_drew1) | exact HB.out))) : w.heap.size ≤ gb238)); clear HO233; clear HO236; clear HB; have HO233 := n0_; have HO236 := n1_; have HB := n2_; have BK238 := n3_; have GW238 := n4_; have GE238 := n5_; clear n0_ n1_ n2_ n3_ n4_ n5_; clear hb hbox hg; obtain ⟨Ao9, co9, eo9⟩ := Kd.R_slice HO233.out; subst eo9; have hcz10_0 : w8.cell? ⟨gb238, 0, none⟩ = some (.slice none 0 0) := (blk_cell BK238.out 0).trans rfl; have hcz10_1 : w8.cell? ⟨gb238, 1, none⟩ = some (.slice none 0 0) := (blk_cell BK238.out 1).trans rfl; have hfz10_0 := blk_frozen BK238.out 0; have hfz10_1 := blk_frozen BK238.out 1; obtain ⟨Ao11, co11, eo11⟩ := Kd.R_slice HO236.out; subst eo11) | ((with_reducible refine gate_dst (N := 31) rfl ?_); (try (refine gate_guard (by rfl) ?_; dsimp only)); refine Kd.R_lit (Kd.int .i64) _ 3 ?hg (N := 31) ?hd (xs := ([] : List Int)) (inner := []) (ok := fun _ => True) (okp := fun _ => True) ?hr ?hp (fun _ hk => hk) trivial (Below.refl _ _) (Nat.le_refl _) (by simp) ?_; (case hd => rfl); (case hg => rfl); (case hr => first | (go_simp; done) | (go_simp; rfl)); (case hp => exact (Reps.none _ _)); intro v240 w12 ho13 hb hg_ hnew_; clear hg_ hnew_; (first | rw [← Ny239.out] at ho13 | (simp only [Int.reduceToNat] at ho13; rw [← Ny239.out] at ho13)); have n0_ := Aside0.mk (Kd.R_below (by (with_reducible repeat (first | apply Kd.R_alloc | apply Kd.R_drewN | apply Kd.R_drew)); exact (Kd.R_mono (Kd.R_far (Kd.R_far (Kd.R_types HO233.out BK238.out (by decide)) (fun _ hk => hk.2) _) (fun _ hk => hk.2) _) (fun _ h_ => h_.1))) hb); have n1_ := Aside0.mk (Kd.R_elder' (by (with_reducible repeat (first | apply Kd.R_alloc | apply Kd.R_drewN | apply Kd.R_drew)); exact (Kd.R_mono (Kd.R_far (Kd.R_far (Kd.R_types HO236.out BK238.out (by decide)) (fun _ hk => hk.2) _) (fun _ hk => hk.2) _) (fun _ h_ => h_.1))) (Kd.R_base ho13) hb); have n2_ := Aside0.mk (Kd.R_lower (Kd.R_new' ho13 (Kd.R_lt (by (with_reducible repeat (first | apply Kd.R_alloc | apply Kd.R_drewN | apply Kd.R_drew)); exact (Kd.R_mono (Kd.R_far (Kd.R_far (Kd.R_types HO236.out BK238.out (by decide)) (fun _ hk => hk.2) _) (fun _ hk => hk.2) _) (fun _ h_ => h_.1))))) (below_size (by repeat (first | (with_reducible first | exact HB.out | apply below_alloc | apply pw_below_drewN | apply below_drew1 | refine below_set ?_ GE238.out) | exact HB.out)))); have n3_ := Aside0.mk (blk_below (g := gb238) (o := .cells #[.slice Ao9 t231.length co9, .slice Ao11 t234.length co11] 29 (0, 0)) (by (with_reducible repeat (first | refine blk_drewN ?_ _ | refine blk_drew ?_ | refine blk_alloc ?_ _)); refine blk_put (cs := #[.slice Ao9 t231.length co9, .slice none 0 0]) ?_ 1 _ rfl; (with_reducible repeat (first | refine blk_drewN ?_ _ | refine blk_drew ?_ | refine blk_alloc ?_ _)); refine blk_put (cs := #[.slice none 0 0, .slice none 0 0]) ?_ 0 _ rfl; (with_reducible repeat (first | refine blk_drewN ?_ _ | refine blk_drew ?_ | refine blk_alloc ?_ _)); exact BK238.out) hb); have n4_ := Aside0.mk (below_step (by repeat (first | (with_reducible first | exact HB.out | apply below_alloc | apply pw_below_drewN | apply below_drew1 | refine below_set ?_ GE238.out) | exact HB.out)) hb); clear HO233; clear HO236; clear BK238; clear HB; have HO233 := n0_; have HO236 := n1_; have HO241 := n2_; have BK238 := n3_; have HB := n4_; clear n0_ n1_ n2_ n3_ n4_; clear hb ho13) | ((with_reducible refine gate_dst (N := 32) rfl ?_); (try (refine gate_guard (by rfl) ?_; dsimp only)); refine Kd.R_lit (Kd.int .i64) _ 3 ?hg (N := 32) ?hd (xs := ([] : List Int)) (inner := []) (ok := fun _ => True) (okp := fun _ => True) ?hr ?hp (fun _ hk => hk) trivial (Below.refl _ _) (Nat.le_refl _) (by simp) ?_; (case hd => rfl); (case hg => rfl); (case hr => first | (go_simp; done) | (go_simp; rfl)); (case hp => exact (Reps.none _ _)); intro v243 w14 ho15 hb hg_ hnew_; clear hg_ hnew_; (first | rw [← Ny242.out] at ho15 | (simp only [Int.reduceToNat] at ho15; rw [← Ny242.out] at ho15)); have n0_ := Aside0.mk (Kd.R_below (by (with_reducible repeat (first | apply Kd.R_alloc | apply Kd.R_drewN | apply Kd.R_drew)); exact HO233.out) hb); have n1_ := Aside0.mk (Kd.R_elder' (by (with_reducible repeat (first | apply Kd.R_alloc | apply Kd.R_drewN | apply Kd.R_drew)); exact HO236.out) (Kd.R_base ho15) hb); have n2_ := Aside0.mk (Kd.R_elder' (by (with_reducible repeat (first | apply Kd.R_alloc | apply Kd.R_drewN | apply Kd.R_drew)); exact HO241.out) (Kd.R_base ho15) hb); have n3_ := Aside0.mk (Kd.R_lower (Kd.R_new' (Kd.R_new' ho15 (Kd.R_lt (by (with_reducible repeat (first | apply Kd.R_alloc | apply Kd.R_drewN | apply Kd.R_drew)); exact HO236.out))) (Kd.R_lt (by (with_reducible repeat (first | apply Kd.R_alloc | apply Kd.R_drewN | apply Kd.R_drew)); exact HO241.out))) (below_size (by repeat (first | (with_reducible first | exact HB.out | apply below_alloc | apply pw_below_drewN | apply below_drew1 | refine below_set ?_ GE238.out) | exact HB.out)))); have n4_ := Aside0.mk (blk_below (g := gb238) (o := .cells #[.slice Ao9 t231.length co9, .slice Ao11 t234.length co11] 29 (0, 0)) (by (with_reducible repeat (first | refine blk_drewN ?_ _ | refine blk_drew ?_ | refine blk_alloc ?_ _)); exact BK238.out) hb); have n5_ := Aside0.mk (below_step (by repeat (first | (with_reducible first | exact HB.out | apply below_alloc | apply pw_below_drewN | apply below_drew1 | refine below_set ?_ GE238.out) | exact HB.out)) hb); clear HO233; clear HO236; clear HO241; clear BK238; clear HB; have HO233 := n0_; have HO236 := n1_; have HO241 := n2_; have HO244 := n3_; have BK238 := n4_; have HB := n5_; clear n0_ n1_ n2_ n3_ n4_ n5_; clear hb ho15))
   go_loopg [5, 6, 7] k (fun kq v5 v6 v7 w' => ∃ (x5_1 : List Int) (x6_1 : List Int) (x7_1 : Int) (x239000_1 : List (S46)) (x239001_1 : List Int) (u239000 : Value) (u239001 : Value), v7 = .int .i64 x7_1 ∧ Aside0 (laws_FnHandles.l0 kq l0 x5_1 x6_1 x7_1 x239000_1 x239001_1 = some true) ∧ Aside0 (kq ≤ k) ∧ Aside0 (Kd.R (Kd.int .i64) 3 w' w.heap.size (fun k_ => some k_ ≠ (v6 : Value).ownBlock ∧ some k_ ≠ (u239001 : Value).ownBlock) v5 x5_1) ∧ Aside0 (Kd.R (Kd.int .i64) 3 w' w.heap.size (fun k_ => some k_ ≠ (v5 : Value).ownBlock ∧ some k_ ≠ (u239001 : Value).ownBlock) v6 x6_1) ∧ Aside0 (Kd.R k46 46 w' w.heap.size (fun _ => True) u239000 x239000_1) ∧ Aside0 (Kd.Q (Kd.int .i64) 3 w' w.heap.size (fun k_ => some k_ ≠ (v5 : Value).ownBlock ∧ some k_ ≠ (v6 : Value).ownBlock) u239001 x239001_1) ∧ Aside0 (w'.heap[gb238]? = some (.cells #[u239000, u239001] 29 (0, 0))) ∧ Aside0 (Below w.heap.size w w'))
   case atStart => exact ⟨(y239), (y242), (0), (t231), (t234), (.slice Ao9 t231.length co9), (.slice Ao11 t234.length co11), (by first | rfl | (simp; done) | (simp [*]; done)), H', ⟨Nat.le_refl _⟩, ⟨by (with_reducible repeat (first | apply Kd.R_alloc | apply Kd.R_drewN | apply Kd.R_drew)); exact Kd.R_mono HO241.out (fun _ hk => ⟨hk.2, hk.1.2⟩)⟩, ⟨by (with_reducible repeat (first | apply Kd.R_alloc | apply Kd.R_drewN | apply Kd.R_drew)); exact Kd.R_mono HO244.out (fun _ hk => ⟨hk.2, hk.1.2⟩)⟩, ⟨by (with_reducible repeat (first | apply Kd.R_alloc | apply Kd.R_drewN | apply Kd.R_drew)); exact HO233.out⟩, ⟨Kd.Q_of_R (by (with_reducible repeat (first | apply Kd.R_alloc | apply Kd.R_drewN | apply Kd.R_drew)); exact Kd.R_mono HO236.out (fun _ hk => ⟨hk.1.2, hk.2⟩))⟩, ⟨by (with_reducible repeat (first | refine blk_drewN ?_ _ | refine blk_drew ?_ | refine blk_alloc ?_ _)); exact BK238.out⟩, ⟨by repeat (first | (with_reducible first | exact HB.out | apply below_alloc | apply pw_below_drewN | apply below_drew1 | refine below_set ?_ GE238.out) | exact HB.out)⟩⟩
   case round =>
    clear H'
    (try clear p2); (try clear c3); (try clear c4); (try clear c6); (try clear p6); (try clear c7); (try clear c8); (try clear c9); (try clear hcz10_0 hcz10_1); (try clear hfz10_0 hfz10_1)
    obtain ⟨x5_1, x6_1, x7_1, x239000_1, x239001_1, u239000, u239001, rfl, HA, HK1, HO_5, HO_6, HO_239000, HO_239001, BK238, HB⟩ := hrel
    cases gk with
    | zero => exact absurd HA.out (by simp [laws_FnHandles.l0])
    | succ k1 =>
     have H := HA.out
     clear HA
     simp only [laws_FnHandles.l0] at H
     by_cases c16 : x7_1 < 30
     ·rw [if_pos c16] at H
      have c16b0 : decide (x7_1 < 30) = true := decide_eq_true c16
      clear c16
      replace H := Option.bind_eq_some_iff.mp H
      obtain ⟨t245, A170, H⟩ := H
      replace H : (if (Int.tmod t245 2) = 0 then ((impl_Take.f k1 x239000_1 x239001_1).bind fun bt246 => (if (bt246.2.2.2 != (decide ((x239001_1.length : Int) > 0))) = true then (laws_FnHandles.j1 k1 l0 x5_1 x6_1 x7_1 bt246.2.2.1 bt246.2.2.2 true bt246.1 bt246.2.1) else (if bt246.2.2.2 = true then ((impl_Live.f k1 bt246.1 bt246.2.1 bt246.2.2.1).bind fun t255 => (if t255 = true then ((laws_within.f k1 x5_1 bt246.2.2.1).bind fun t256 => (if t256 = true then (laws_FnHandles.j1 k1 l0 x5_1 x6_1 x7_1 bt246.2.2.1 bt246.2.2.2 true bt246.1 bt246.2.1) else ((laws_within.f k1 x6_1 bt246.2.2.1).bind fun t257 => (laws_FnHandles.j1 k1 l0 x5_1 x6_1 x7_1 bt246.2.2.1 bt246.2.2.2 t257 bt246.1 bt246.2.1)))) else (laws_FnHandles.j1 k1 l0 x5_1 x6_1 x7_1 bt246.2.2.1 bt246.2.2.2 true bt246.1 bt246.2.1))) else (laws_FnHandles.j1 k1 l0 x5_1 x6_1 x7_1 bt246.2.2.1 bt246.2.2.2 false bt246.1 bt246.2.1)))) else (if (x5_1.length : Int) > 0 then ((laws_at.f l0 (wrap64 (x7_1 + 40))).bind fun t271 => (if (x5_1.length : Int) = 0 then (none) else (if 0 ≤ (Int.tmod t271 (x5_1.length : Int)) then (if (Int.tmod t271 (x5_1.length : Int)) < (x5_1.length : Int) then ((impl_Give.f k1 x239000_1 x239001_1 (rd x5_1 (Int.tmod t271 (x5_1.length : Int)))).bind fun bt273 => (if bt273.2.2 = true then (if x6_1.length < 17592186044416 then ((some (([] : List Int) : List Int)).bind fun y285 => (if (Int.tmod t271 (x5_1.length : Int)) ≤ (x5_1.length : Int) then ((some (x5_1.take ((Int.tmod t271 (x5_1.length : Int)) : Int).toNat : List Int)).bind fun y288 => (if y285.length + y288.length < 17592186044416 then ((some (y285 ++ y288 : List Int)).bind fun y292 => (if 0 ≤ (wrap64 ((Int.tmod t271 (x5_1.length : Int)) + 1)) then (if (wrap64 ((Int.tmod t271 (x5_1.length : Int)) + 1)) ≤ (x5_1.length : Int) then ((some (x5_1.drop ((wrap64 ((Int.tmod t271 (x5_1.length : Int)) + 1)) : Int).toNat : List Int)).bind fun y295 => (if y292.length + y295.length < 17592186044416 then (laws_FnHandles.j2 k1 l0 (y292 ++ y295) (x6_1 ++ [rd x5_1 (Int.tmod t271 (x5_1.length : Int))]) x7_1 bt273.1 bt273.2.1) else (none))) else (none)) else (none))) else (none))) else (none))) else (none)) else (some false))) else (none)) else (none)))) else (laws_FnHandles.j2 k1 l0 x5_1 x6_1 x7_1 x239000_1 x239001_1))) = some true := H
      have A17 := Aside0.mk A170
      clear A170
      have HC18 := Aside0.mk H
      clear H
      go_upto_if 42 with (first | ((with_reducible refine gate_callee (f := 9) rfl ?_); refine goesL_ (some 40) rfl rfl Tryd.func9 (by kernel_rfl) rfl #[.slice A0 l0.length c0, .int .i64 (wrap64 (x7_1 + 1))] rfl (by (try simp only [List.map_toArray, List.map_cons, List.map_nil]); first | done | rfl | (simp only [List.length_drop, List.length_take]; rfl)) ?_; (with_reducible refine (laws_at.calls _ _ l0 (wrap64 (x7_1 + 1)) t245 _ ?side1 ?side2 A17.out).mono ?_); (case side1 => repeat (first | exact (Kd.C_below HR0.out HB.out) | (with_reducible refine Kd.C_alloc ?_ _) | (with_reducible refine Kd.C_drewN ?_ _) | (with_reducible refine Kd.C_drew ?_))); (case side2 => exact HC0.out); rintro e w' ⟨rfl, ⟨nd, rfl⟩⟩; refine ⟨_, rfl, ?_⟩))
      (try simp only [Act.put, List.setIfInBounds_toArray, List.set_cons_zero, List.set_cons_succ])
      go_cut [5, 6] (fun v5 v6 wc => ∃ (kq : Nat) (x5_17 : List Int) (x6_17 : List Int) (x239000_17 : List (S46)) (x239001_17 : List Int) (u239000 : Value) (u239001 : Value), Aside0 (laws_FnHandles.j2 kq l0 x5_17 x6_17 x7_1 x239000_17 x239001_17 = some true) ∧ Aside0 (kq ≤ k1) ∧ Aside0 (Kd.R (Kd.int .i64) 3 wc w.heap.size (fun k_ => some k_ ≠ (v6 : Value).ownBlock ∧ some k_ ≠ (u239001 : Value).ownBlock) v5 x5_17) ∧ Aside0 (Kd.R (Kd.int .i64) 3 wc w.heap.size (fun k_ => some k_ ≠ (v5 : Value).ownBlock ∧ some k_ ≠ (u239001 : Value).ownBlock) v6 x6_17) ∧ Aside0 (Kd.R k46 46 wc w.heap.size (fun _ => True) u239000 x239000_17) ∧ Aside0 (Kd.Q (Kd.int .i64) 3 wc w.heap.size (fun k_ => some k_ ≠ (v5 : Value).ownBlock ∧ some k_ ≠ (v6 : Value).ownBlock) u239001 x239001_17) ∧ Aside0 (wc.heap[gb238]? = some (.cells #[u239000, u239001] 29 (0, 0))) ∧ Aside0 (Below w.heap.size w wc))
      case first =>
       have H := HC18.out
       clear HC18
       by_cases c19 : (Int.tmod t245 2) = 0
       ·rw [if_pos c19] at H
        have c19b0 : ((Int.tmod t245 2) == 0) = true := beq_iff_eq.mpr c19
        have c19b1 : ((Int.tmod t245 2) != 0) = false := bne_eq_false_iff_eq.mpr c19
        clear c19
        (first | rw [c19b0] | (simp only [i64_w, i32_w]; rw [c19b0]) | skip)
        replace H := Option.bind_eq_some_iff.mp H
        obtain ⟨⟨t246, t249, t252, t253⟩, A200, H⟩ := H
        replace H : (if (t253 != (decide ((x239001_1.length : Int) > 0))) = true then (laws_FnHandles.j1 k1 l0 x5_1 x6_1 x7_1 t252 t253 true t246 t249) else (if t253 = true then ((impl_Live.f k1 t246 t249 t252).bind fun t255 => (if t255 = true then ((laws_within.f k1 x5_1 t252).bind fun t256 => (if t256 = true then (laws_FnHandles.j1 k1 l0 x5_1 x6_1 x7_1 t252 t253 true t246 t249) else ((laws_within.f k1 x6_1 t252).bind fun t257 => (laws_FnHandles.j1 k1 l0 x5_1 x6_1 x7_1 t252 t253 t257 t246 t249)))) else (laws_FnHandles.j1 k1 l0 x5_1 x6_1 x7_1 t252 t253 true t246 t249))) else (laws_FnHandles.j1 k1 l0 x5_1 x6_1 x7_1 t252 t253 false t246 t249))) = some true := H
        have A20 := Aside0.mk A200
        clear A200
        have HC21 := Aside0.mk H
        clear H
        have hcz22_0 : wr.cell? ⟨gb238, 0, none⟩ = some (u239000) := (blk_cell BK238.out 0).trans rfl
        have hcz22_1 : wr.cell? ⟨gb238, 1, none⟩ = some (u239001) := (blk_cell BK238.out 1).trans rfl
        have hfz22_0 := blk_frozen BK238.out 0
        have hfz22_1 := blk_frozen BK238.out 1
        obtain ⟨Ao23, co23, eo23⟩ := Kd.R_slice HO_239000.out
        subst eo23
        obtain ⟨Ao24, co24, eo24, _⟩ := Kd.Q_slice HO_239001.out
        subst eo24
        go_upto_region 12 with (first | ((with_reducible refine gate_callee (f := 10) rfl ?_); refine goesL_ (some 45) rfl rfl Tryd.func10 (by kernel_rfl) rfl #[.agg #[.slice Ao23 x239000_1.length co23, .slice Ao24 x239001_1.length co24]] rfl (by (try simp only [List.map_toArray, List.map_cons, List.map_nil]); first | done | rfl | (simp only [List.length_drop, List.length_take]; rfl)) ?_; (with_reducible refine (impl_Take.calls k1 _ _ x239000_1 _ _ x239001_1 t246 t249 t252 t253 _ ?side1 ?side2 ?side3 ?side4 A20.out).mono ?_); (case side1 => repeat (first | exact (Kd.R_reads' HO_239000.out).2.2 | (with_reducible refine Kd.C_alloc ?_ _) | (with_reducible refine Kd.C_drewN ?_ _) | (with_reducible refine Kd.C_drew ?_))); (case side2 => exact (Kd.R_reads' HO_239000.out).2.1); (case side3 => repeat (first | exact (Kd.Q_reads' HO_239001.out).2.2 | (with_reducible refine Kd.C_alloc ?_ _) | (with_reducible refine Kd.C_drewN ?_ _) | (with_reducible refine Kd.C_drew ?_))); (case side4 => exact (Kd.Q_reads' HO_239001.out).2.1); rintro e w25 ⟨v247, v250, rfl, ho0, ho1, hb⟩; refine ⟨_, rfl, ?_⟩; have n0_ := Aside0.mk (Kd.R_elder' (by (with_reducible repeat (first | apply Kd.R_alloc | apply Kd.R_drewN | apply Kd.R_drew)); exact HO_5.out) (Kd.Q_base ho1) hb); have n1_ := Aside0.mk (Kd.R_elder' (by (with_reducible repeat (first | apply Kd.R_alloc | apply Kd.R_drewN | apply Kd.R_drew)); exact HO_6.out) (Kd.Q_base ho1) hb); have n2_ := Aside0.mk (Kd.R_elder' (by (with_reducible repeat (first | apply Kd.R_alloc | apply Kd.R_drewN | apply Kd.R_drew)); exact HO_239000.out) (Kd.R_base ho0) hb); have n3_ := Aside0.mk (Kd.Q_elder' (by (with_reducible repeat (first | apply Kd.Q_alloc | apply Kd.Q_drewN | apply Kd.Q_drew)); exact HO_239001.out) (Kd.Q_base ho1) hb); have n4_ := Aside0.mk (Kd.R_lower (Kd.R_new' ho0 (Kd.R_lt (by (with_reducible repeat (first | apply Kd.R_alloc | apply Kd.R_drewN | apply Kd.R_drew)); exact HO_239000.out))) (below_size (by repeat (first | (with_reducible first | exact HB.out | apply below_alloc | apply pw_below_drewN | apply below_drew1 | refine below_set ?_ GE238.out) | exact HB.out)))); have n5_ := Aside0.mk (Kd.Q_lower (Kd.Q_new' (Kd.Q_new' (Kd.Q_new' ho1 (Kd.R_lt (by (with_reducible repeat (first | apply Kd.R_alloc | apply Kd.R_drewN | apply Kd.R_drew)); exact HO_5.out))) (Kd.R_lt (by (with_reducible repeat (first | apply Kd.R_alloc | apply Kd.R_drewN | apply Kd.R_drew)); exact HO_6.out))) (Kd.Q_lt (by (with_reducible repeat (first | apply Kd.Q_alloc | apply Kd.Q_drewN | apply Kd.Q_drew)); exact HO_239001.out))) (below_size (by repeat (first | (with_reducible first | exact HB.out | apply below_alloc | apply pw_below_drewN | apply below_drew1 | refine below_set ?_ GE238.out) | exact HB.out)))); have n6_ := Aside0.mk (blk_below (g := gb238) (o := .cells #[.slice Ao23 x239000_1.length co23, .slice Ao24 x239001_1.length co24] 29 (0, 0)) (by (with_reducible repeat (first | refine blk_drewN ?_ _ | refine blk_drew ?_ | refine blk_alloc ?_ _)); exact BK238.out) hb); have n7_ := Aside0.mk (below_step (by repeat (first | (with_reducible first | exact HB.out | apply below_alloc | apply pw_below_drewN | apply below_drew1 | refine below_set ?_ GE238.out) | exact HB.out)) hb); clear HO_5; clear HO_6; clear HO_239000; clear HO_239001; clear BK238; clear HB; have HO_5 := n0_; have HO_6 := n1_; have HO_239000 := n2_; have HO_239001 := n3_; have HO248 := n4_; have HO251 := n5_; have BK238 := n6_; have HB := n7_; clear n0_ n1_ n2_ n3_ n4_ n5_ n6_ n7_; (try clear hb); (try clear hb2); (try clear hk); (try clear hi); (try clear ho0); (try clear ho1)) | ((with_reducible refine gate_dst (N := 8) rfl ?_); (try (refine gate_guard (by rfl) ?_; dsimp only)); refine box_event ?hg (N := 8) ?hd (cs := #[.slice none 0 0, .slice none 0 0]) (t := 29) ?hr ?_; (case hd => rfl); (case hg => rfl); (case hr => first | (go_simp; done) | (go_simp; rfl)); intro gb254 hg w26 hbox hb; have n0_ := Aside0.mk (Kd.R_below (by (with_reducible repeat (first | apply Kd.R_alloc | apply Kd.R_drewN | apply Kd.R_drew)); exact HO_5.out) hb); have n1_ := Aside0.mk (Kd.R_below (by (with_reducible repeat (first | apply Kd.R_alloc | apply Kd.R_drewN | apply Kd.R_drew)); exact HO_6.out) hb); have n2_ := Aside0.mk (Kd.R_below (by (with_reducible repeat (first | apply Kd.R_alloc | apply Kd.R_drewN | apply Kd.R_drew)); exact HO_239000.out) hb); have n3_ := Aside0.mk (Kd.Q_below (by (with_reducible repeat (first | apply Kd.Q_alloc | apply Kd.Q_drewN | apply Kd.Q_drew)); exact HO_239001.out) hb); have n4_ := Aside0.mk (Kd.R_below (by (with_reducible repeat (first | apply Kd.R_alloc | apply Kd.R_drewN | apply Kd.R_drew)); exact HO248.out) hb); have n5_ := Aside0.mk (Kd.Q_below (by (with_reducible repeat (first | apply Kd.Q_alloc | apply Kd.Q_drewN | apply Kd.Q_drew)); exact HO251.out) hb); have n6_ := Aside0.mk (blk_below (g := gb238) (o := .cells #[.slice Ao23 x239000_1.length co23, .slice Ao24 x239001_1.length co24] 29 (0, 0)) (by (with_reducible repeat (first | refine blk_drewN ?_ _ | refine blk_drew ?_ | refine blk_alloc ?_ _)); exact BK238.out) hb); have n7_ := Aside0.mk (below_step (by repeat (first | (with_reducible first | exact HB.out | apply below_alloc | apply pw_below_drewN | apply below_drew1 | refine below_set ?_ GE238.out) | exact HB.out)) hb); have n8_ := Aside0.mk (hbox); have n9_ := Aside0.mk ((by rw [hg]; exact (below_size (by repeat (first | (with_reducible first | exact HB.out | apply below_alloc | apply pw_below_drewN | apply below_drew1 | refine below_set ?_ GE238.out) | exact HB.out))) : w.heap.size ≤ gb254)); have n10_ := Aside0.mk ((by rw [hg]; exact (below_size (by repeat (first | (with_reducible first | exact HB.out | apply below_alloc | apply pw_below_drewN | apply below_drew1 | refine below_set ?_ GE238.out) | exact HB.out))) : w.heap.size ≤ gb254)); have n11_ := Aside0.mk ((by rw [hg]; exact Nat.ne_of_lt (blk_lt (g := gb238) (o := .cells #[.slice Ao23 x239000_1.length co23, .slice Ao24 x239001_1.length co24] 29 (0, 0)) (by (with_reducible repeat (first | refine blk_drewN ?_ _ | refine blk_drew ?_ | refine blk_alloc ?_ _)); exact BK238.out)) : gb238 ≠ gb254)); have n12_ := Aside0.mk ((by rw [hg]; exact Nat.ne_of_gt (blk_lt (g := gb238) (o := .cells #[.slice Ao23 x239000_1.length co23, .slice Ao24 x239001_1.length co24] 29 (0, 0)) (by (with_reducible repeat (first | refine blk_drewN ?_ _ | refine blk_drew ?_ | refine blk_alloc ?_ _)); exact BK238.out)) : gb254 ≠ gb238)); clear HO_5; clear HO_6; clear HO_239000; clear HO_239001; clear HO248; clear HO251; clear BK238; clear HB; have HO_5 := n0_; have HO_6 := n1_; have HO_239000 := n2_; have HO_239001 := n3_; have HO248 := n4_; have HO251 := n5_; have BK238 := n6_; have HB := n7_; have BK254 := n8_; have GW254 := n9_; have GE254 := n10_; have NB238_254 := n11_; have NB254_238 := n12_; clear n0_ n1_ n2_ n3_ n4_ n5_ n6_ n7_ n8_ n9_ n10_ n11_ n12_; clear hb hbox hg; obtain ⟨Ao27, co27, eo27⟩ := Kd.R_slice HO248.out; subst eo27; have hnb28 := NB254_238.out; have hnc28 := NB238_254.out; have hcz29_0 : w26.cell? ⟨gb254, 0, none⟩ = some (.slice none 0 0) := (blk_cell BK254.out 0).trans rfl; have hcz29_1 : w26.cell? ⟨gb254, 1, none⟩ = some (.slice none 0 0) := (blk_cell BK254.out 1).trans rfl; have hfz29_0 := blk_frozen BK254.out 0; have hfz29_1 := blk_frozen BK254.out 1; obtain ⟨Ao30, co30, eo30, _⟩ := Kd.Q_slice HO251.out; subst eo30))
        (try simp only [Act.put, List.setIfInBounds_toArray, List.set_cons_zero, List.set_cons_succ])
        go_cut [73] (fun v73 wc => ∃ (kq : Nat) (x73_20 : Bool), v73 = .bool x73_20 ∧ Aside0 (laws_FnHandles.j1 kq l0 x5_1 x6_1 x7_1 t252 t253 x73_20 t246 t249 = some true) ∧ Aside0 (kq ≤ k1) ∧ Aside0 (Kd.R (Kd.int .i64) 3 wc w.heap.size (fun k_ => some k_ ≠ (u6 : Value).ownBlock ∧ some k_ ≠ ((.slice Ao24 x239001_1.length co24) : Value).ownBlock ∧ some k_ ≠ ((.slice Ao30 t249.length co30) : Value).ownBlock) u5 x5_1) ∧ Aside0 (Kd.R (Kd.int .i64) 3 wc w.heap.size (fun k_ => some k_ ≠ (u5 : Value).ownBlock ∧ some k_ ≠ ((.slice Ao24 x239001_1.length co24) : Value).ownBlock ∧ some k_ ≠ ((.slice Ao30 t249.length co30) : Value).ownBlock) u6 x6_1) ∧ Aside0 (Kd.R k46 46 wc w.heap.size (fun k_ => some k_ ≠ ((.slice Ao27 t246.length co27) : Value).ownBlock) (.slice Ao23 x239000_1.length co23) x239000_1) ∧ Aside0 (Kd.Q (Kd.int .i64) 3 wc w.heap.size (fun k_ => some k_ ≠ (u5 : Value).ownBlock ∧ some k_ ≠ (u6 : Value).ownBlock ∧ some k_ ≠ ((.slice Ao30 t249.length co30) : Value).ownBlock) (.slice Ao24 x239001_1.length co24) x239001_1) ∧ Aside0 (Kd.R k46 46 wc w.heap.size (fun k_ => some k_ ≠ ((.slice Ao23 x239000_1.length co23) : Value).ownBlock) (.slice Ao27 t246.length co27) t246) ∧ Aside0 (Kd.Q (Kd.int .i64) 3 wc w.heap.size (fun k_ => some k_ ≠ (u5 : Value).ownBlock ∧ some k_ ≠ (u6 : Value).ownBlock ∧ some k_ ≠ ((.slice Ao24 x239001_1.length co24) : Value).ownBlock) (.slice Ao30 t249.length co30) t249) ∧ Aside0 (wc.heap[gb238]? = some (.cells #[(.slice Ao23 x239000_1.length co23), (.slice Ao24 x239001_1.length co24)] 29 (0, 0))) ∧ Aside0 (wc.heap[gb254]? = some (.cells #[(.slice Ao27 t246.length co27), (.slice Ao30 t249.length co30)] 29 (0, 0))) ∧ Aside0 (Below w.heap.size w wc))
        case first =>
         have H := HC21.out
         clear HC21
         by_cases c31 : (t253 != (decide ((x239001_1.length : Int) > 0))) = true
         ·rw [if_pos c31] at H
          have c31b0 : (t253 != (decide ((x239001_1.length : Int) > 0))) = true := c31
          (try (have c31b1 : decide (t253 = (decide ((x239001_1.length : Int) > 0))) = false := by simpa using c31))
          (try (have c31b2 : (t253 == (decide ((x239001_1.length : Int) > 0))) = false := by simpa using c31))
          (try (have c31b3 : ¬ (t253 = (decide ((x239001_1.length : Int) > 0))) := by simpa using c31))
          clear c31
          (first | rw [c31b0] | (simp only [i64_w, i32_w]; rw [c31b0]) | skip)
          exact absurd H (by cases k1 <;> first | (simp [laws_FnHandles.j1]; done) | ((repeat' split) <;> simp_all [laws_FnHandles.j1]))
         ·rw [if_neg c31] at H
          have c31b0 : (t253 != (decide ((x239001_1.length : Int) > 0))) = false := by simpa using c31
          (try (have c31b1 : decide (t253 = (decide ((x239001_1.length : Int) > 0))) = true := by simpa using c31))
          (try (have c31b2 : (t253 == (decide ((x239001_1.length : Int) > 0))) = true := by simpa using c31))
          clear c31
          (first | rw [c31b0] | (simp only [i64_w, i32_w]; rw [c31b0]) | skip)
          by_cases c32 : t253 = true
          ·subst c32
           have c31p : ((x239001_1.length : Int) > 0) := by
            cases hd_ : decide ((x239001_1.length : Int) > 0) with
            | true => exact of_decide_eq_true hd_
            | false => rw [hd_] at c31b0; exact absurd c31b0 (by decide)
           have c31q : decide (0 < x239001_1.length) = true := decide_eq_true (by omega)
           have c31r : decide (0 < (x239001_1.length : Int)) = true := decide_eq_true (by omega)
           have c31s := eq_true (show 0 < x239001_1.length by omega)
           have H1 : ((impl_Live.f k1 t246 t249 t252).bind fun t255 => (if t255 = true then ((laws_within.f k1 x5_1 t252).bind fun t256 => (if t256 = true then (laws_FnHandles.j1 k1 l0 x5_1 x6_1 x7_1 t252 true true t246 t249) else ((laws_within.f k1 x6_1 t252).bind fun t257 => (laws_FnHandles.j1 k1 l0 x5_1 x6_1 x7_1 t252 true t257 t246 t249)))) else (laws_FnHandles.j1 k1 l0 x5_1 x6_1 x7_1 t252 true true t246 t249))) = some true := by rw [if_pos rfl] at H; exact H
           clear H
           have H := H1
           clear H1
           replace H := Option.bind_eq_some_iff.mp H
           obtain ⟨t255, A330, H⟩ := H
           replace H : (if t255 = true then ((laws_within.f k1 x5_1 t252).bind fun t256 => (if t256 = true then (laws_FnHandles.j1 k1 l0 x5_1 x6_1 x7_1 t252 true true t246 t249) else ((laws_within.f k1 x6_1 t252).bind fun t257 => (laws_FnHandles.j1 k1 l0 x5_1 x6_1 x7_1 t252 true t257 t246 t249)))) else (laws_FnHandles.j1 k1 l0 x5_1 x6_1 x7_1 t252 true true t246 t249)) = some true := H
           have A33 := Aside0.mk A330
           clear A330
           by_cases c34 : t255 = true
           ·subst c34
            have H1 : ((laws_within.f k1 x5_1 t252).bind fun t256 => (if t256 = true then (laws_FnHandles.j1 k1 l0 x5_1 x6_1 x7_1 t252 true true t246 t249) else ((laws_within.f k1 x6_1 t252).bind fun t257 => (laws_FnHandles.j1 k1 l0 x5_1 x6_1 x7_1 t252 true t257 t246 t249)))) = some true := by rw [if_pos rfl] at H; exact H
            clear H
            have H := H1
            clear H1
            replace H := Option.bind_eq_some_iff.mp H
            obtain ⟨t256, A350, H⟩ := H
            replace H : (if t256 = true then (laws_FnHandles.j1 k1 l0 x5_1 x6_1 x7_1 t252 true true t246 t249) else ((laws_within.f k1 x6_1 t252).bind fun t257 => (laws_FnHandles.j1 k1 l0 x5_1 x6_1 x7_1 t252 true t257 t246 t249))) = some true := H
            have A35 := Aside0.mk A350
            clear A350
            by_cases c36 : t256 = true
            ·subst c36
             have H1 : (laws_FnHandles.j1 k1 l0 x5_1 x6_1 x7_1 t252 true true t246 t249) = some true := by rw [if_pos rfl] at H; exact H
             clear H
             have H := H1
             clear H1
             exact absurd H (by cases k1 <;> first | (simp [laws_FnHandles.j1]; done) | ((repeat' split) <;> simp_all [laws_FnHandles.j1]))
            ·replace c36 := Bool.eq_false_iff.mpr c36
             subst c36
             have H1 : ((laws_within.f k1 x6_1 t252).bind fun t257 => (laws_FnHandles.j1 k1 l0 x5_1 x6_1 x7_1 t252 true t257 t246 t249)) = some true := by rw [if_neg (show ¬ (false = true) by decide)] at H; exact H
             clear H
             have H := H1
             clear H1
             replace H := Option.bind_eq_some_iff.mp H
             obtain ⟨t257, A370, H⟩ := H
             replace H : (laws_FnHandles.j1 k1 l0 x5_1 x6_1 x7_1 t252 true t257 t246 t249) = some true := H
             have A37 := Aside0.mk A370
             clear A370
             have H' := Aside0.mk H
             clear H
             have hnb38 := NB238_254.out
             have hnc38 := NB254_238.out
             have hcz39_0 : w26.cell? ⟨gb238, 0, none⟩ = some (.slice Ao23 x239000_1.length co23) := (blk_cell BK238.out 0).trans rfl
             have hcz39_1 : w26.cell? ⟨gb238, 1, none⟩ = some (.slice Ao24 x239001_1.length co24) := (blk_cell BK238.out 1).trans rfl
             have hfz39_0 := blk_frozen BK238.out 0
             have hfz39_1 := blk_frozen BK238.out 1
             have hcz40_0 : w26.cell? ⟨gb254, 0, none⟩ = some (.slice none 0 0) := (blk_cell BK254.out 0).trans rfl
             have hcz40_1 : w26.cell? ⟨gb254, 1, none⟩ = some (.slice none 0 0) := (blk_cell BK254.out 1).trans rfl
             have hfz40_0 := blk_frozen BK254.out 0
             have hfz40_1 := blk_frozen BK254.out 1
             go_wp2_with (first | (go_at_call 11; (with_reducible refine (impl_Live.calls k1 _ _ t246 _ _ t249 t252 true _ ?side1 ?side2 ?side3 ?side4 A33.out).mono ?_); (case side1 => refine (Kd.R_reads' (e := 46) (base := w.heap.size) (ok := fun k_ => (True ∧ some k_ ≠ (.slice Ao23 x239000_1.length co23 : Value).ownBlock)) (n := t246.length) (c := co27) ?_).2.2; exact (by (with_reducible repeat (first | apply Kd.R_alloc | apply Kd.R_drewN | apply Kd.R_drew)); exact (Kd.R_mono (Kd.R_far (Kd.R_far (Kd.R_types HO248.out BK254.out (by decide)) (fun _ hk => hk.2) _) (fun _ hk => hk.2) _) (fun _ h_ => h_.1)))); (case side2 => exact (Kd.R_reads' HO248.out).2.1); (case side3 => refine (Kd.Q_reads' (e := 3) (base := w.heap.size) (ok := fun k_ => (((True ∧ some k_ ≠ (u5 : Value).ownBlock) ∧ some k_ ≠ (u6 : Value).ownBlock) ∧ some k_ ≠ (.slice Ao24 x239001_1.length co24 : Value).ownBlock)) (n := t249.length) (c := co30) ?_).2.2; exact (by (with_reducible repeat (first | apply Kd.Q_alloc | apply Kd.Q_drewN | apply Kd.Q_drew)); exact (Kd.Q_mono (Kd.Q_far (Kd.Q_far (Kd.Q_types HO251.out BK254.out (by decide)) (fun _ hk => hk.2) _) (fun _ hk => hk.2) _) (fun _ h_ => h_.1)))); (case side4 => exact (Kd.Q_reads' HO251.out).2.1); rintro e w41 ⟨rfl, hb⟩; have n0_ := Aside0.mk (Kd.R_below (by (with_reducible repeat (first | apply Kd.R_alloc | apply Kd.R_drewN | apply Kd.R_drew)); exact (Kd.R_mono (Kd.R_far (Kd.R_far (Kd.R_types HO_5.out BK254.out (by decide)) (fun _ hk => hk.2) _) (fun _ hk => hk.2) _) (fun _ h_ => h_.1))) hb); have n1_ := Aside0.mk (Kd.R_below (by (with_reducible repeat (first | apply Kd.R_alloc | apply Kd.R_drewN | apply Kd.R_drew)); exact (Kd.R_mono (Kd.R_far (Kd.R_far (Kd.R_types HO_6.out BK254.out (by decide)) (fun _ hk => hk.2) _) (fun _ hk => hk.2) _) (fun _ h_ => h_.1))) hb); have n2_ := Aside0.mk (Kd.R_below (by (with_reducible repeat (first | apply Kd.R_alloc | apply Kd.R_drewN | apply Kd.R_drew)); exact (Kd.R_mono (Kd.R_far (Kd.R_far (Kd.R_types HO_239000.out BK254.out (by decide)) (fun _ hk => hk.2) _) (fun _ hk => hk.2) _) (fun _ h_ => h_.1))) hb); have n3_ := Aside0.mk (Kd.Q_below (by (with_reducible repeat (first | apply Kd.Q_alloc | apply Kd.Q_drewN | apply Kd.Q_drew)); exact (Kd.Q_mono (Kd.Q_far (Kd.Q_far (Kd.Q_types HO_239001.out BK254.out (by decide)) (fun _ hk => hk.2) _) (fun _ hk => hk.2) _) (fun _ h_ => h_.1))) hb); have n4_ := Aside0.mk (Kd.R_below (by (with_reducible repeat (first | apply Kd.R_alloc | apply Kd.R_drewN | apply Kd.R_drew)); exact (Kd.R_mono (Kd.R_far (Kd.R_far (Kd.R_types HO248.out BK254.out (by decide)) (fun _ hk => hk.2) _) (fun _ hk => hk.2) _) (fun _ h_ => h_.1))) hb); have n5_ := Aside0.mk (Kd.Q_below (by (with_reducible repeat (first | apply Kd.Q_alloc | apply Kd.Q_drewN | apply Kd.Q_drew)); exact (Kd.Q_mono (Kd.Q_far (Kd.Q_far (Kd.Q_types HO251.out BK254.out (by decide)) (fun _ hk => hk.2) _) (fun _ hk => hk.2) _) (fun _ h_ => h_.1))) hb); have n6_ := Aside0.mk (blk_below (g := gb238) (o := .cells #[.slice Ao23 x239000_1.length co23, .slice Ao24 x239001_1.length co24] 29 (0, 0)) (by (with_reducible repeat (first | refine blk_drewN ?_ _ | refine blk_drew ?_ | refine blk_alloc ?_ _)); refine blk_far ?_ NB238_254.out _; (with_reducible repeat (first | refine blk_drewN ?_ _ | refine blk_drew ?_ | refine blk_alloc ?_ _)); refine blk_far ?_ NB238_254.out _; (with_reducible repeat (first | refine blk_drewN ?_ _ | refine blk_drew ?_ | refine blk_alloc ?_ _)); exact BK238.out) hb); have n7_ := Aside0.mk (blk_below (g := gb254) (o := .cells #[.slice Ao27 t246.length co27, .slice Ao30 t249.length co30] 29 (0, 0)) (by (with_reducible repeat (first | refine blk_drewN ?_ _ | refine blk_drew ?_ | refine blk_alloc ?_ _)); refine blk_put (cs := #[.slice Ao27 t246.length co27, .slice none 0 0]) ?_ 1 _ rfl; (with_reducible repeat (first | refine blk_drewN ?_ _ | refine blk_drew ?_ | refine blk_alloc ?_ _)); refine blk_put (cs := #[.slice none 0 0, .slice none 0 0]) ?_ 0 _ rfl; (with_reducible repeat (first | refine blk_drewN ?_ _ | refine blk_drew ?_ | refine blk_alloc ?_ _)); exact BK254.out) hb); have n8_ := Aside0.mk (below_step (by repeat (first | (with_reducible first | exact HB.out | apply below_alloc | apply pw_below_drewN | apply below_drew1 | refine below_set ?_ GE238.out | refine below_set ?_ GE254.out) | exact HB.out)) hb); clear HO_5; clear HO_6; clear HO_239000; clear HO_239001; clear HO248; clear HO251; clear BK238; clear BK254; clear HB; have HO_5 := n0_; have HO_6 := n1_; have HO_239000 := n2_; have HO_239001 := n3_; have HO248 := n4_; have HO251 := n5_; have BK238 := n6_; have BK254 := n7_; have HB := n8_; clear n0_ n1_ n2_ n3_ n4_ n5_ n6_ n7_ n8_; (try clear hb); (try clear hb2); (try clear hk); (try clear hi); obtain ⟨Ao42, co42, eo42⟩ := Kd.R_slice HO_5.out; subst eo42) | (go_at_call 12; (with_reducible refine (laws_within.calls k1 _ _ x5_1 t252 false _ ?side1 ?side2 A35.out).mono ?_); (case side1 => repeat (first | exact (Kd.R_reads' HO_5.out).2.2 | (with_reducible refine Kd.C_alloc ?_ _) | (with_reducible refine Kd.C_drewN ?_ _) | (with_reducible refine Kd.C_drew ?_))); (case side2 => exact (Kd.R_reads' HO_5.out).2.1); rintro e w' ⟨rfl, ⟨nd, rfl⟩⟩; obtain ⟨Ao43, co43, eo43⟩ := Kd.R_slice HO_6.out; subst eo43) | (go_at_call 12; (with_reducible refine (laws_within.calls k1 _ _ x6_1 t252 t257 _ ?side1 ?side2 A37.out).mono ?_); (case side1 => repeat (first | exact (Kd.R_reads' HO_6.out).2.2 | (with_reducible refine Kd.C_alloc ?_ _) | (with_reducible refine Kd.C_drewN ?_ _) | (with_reducible refine Kd.C_drew ?_))); (case side2 => exact (Kd.R_reads' HO_6.out).2.1); rintro e w' ⟨rfl, ⟨nd, rfl⟩⟩))
             go_meet
             case rel => exact ⟨_, (t257), (by first | rfl | (simp; done) | (simp [*]; done)), H', ⟨by have := HK1.out; first | omega | exact Nat.le_refl _⟩, ⟨by (with_reducible repeat (first | apply Kd.R_alloc | apply Kd.R_drewN | apply Kd.R_drew)); exact Kd.R_mono HO_5.out (fun _ hk => ⟨hk.1.1, ⟨hk.1.2, hk.2⟩⟩)⟩, ⟨by (with_reducible repeat (first | apply Kd.R_alloc | apply Kd.R_drewN | apply Kd.R_drew)); exact Kd.R_mono HO_6.out (fun _ hk => ⟨hk.1.1, ⟨hk.1.2, hk.2⟩⟩)⟩, ⟨by (with_reducible repeat (first | apply Kd.R_alloc | apply Kd.R_drewN | apply Kd.R_drew)); exact Kd.R_mono HO_239000.out (fun _ hk => hk.2)⟩, ⟨by (with_reducible repeat (first | apply Kd.Q_alloc | apply Kd.Q_drewN | apply Kd.Q_drew)); exact Kd.Q_mono HO_239001.out (fun _ hk => ⟨hk.1.1, ⟨hk.1.2, hk.2⟩⟩)⟩, ⟨by (with_reducible repeat (first | apply Kd.R_alloc | apply Kd.R_drewN | apply Kd.R_drew)); exact Kd.R_mono HO248.out (fun _ hk => hk.2)⟩, ⟨by (with_reducible repeat (first | apply Kd.Q_alloc | apply Kd.Q_drewN | apply Kd.Q_drew)); exact Kd.Q_mono HO251.out (fun _ hk => ⟨hk.1.1.2, ⟨hk.1.2, hk.2⟩⟩)⟩, ⟨by (with_reducible repeat (first | refine blk_drewN ?_ _ | refine blk_drew ?_ | refine blk_alloc ?_ _)); exact BK238.out⟩, ⟨by (with_reducible repeat (first | refine blk_drewN ?_ _ | refine blk_drew ?_ | refine blk_alloc ?_ _)); exact BK254.out⟩, ⟨by repeat (first | (with_reducible first | exact HB.out | apply below_alloc | apply pw_below_drewN | apply below_drew1 | refine below_set ?_ GE238.out | refine below_set ?_ GE254.out) | exact HB.out)⟩⟩
           ·replace c34 := Bool.eq_false_iff.mpr c34
            subst c34
            have H1 : (laws_FnHandles.j1 k1 l0 x5_1 x6_1 x7_1 t252 true true t246 t249) = some true := by rw [if_neg (show ¬ (false = true) by decide)] at H; exact H
            clear H
            have H := H1
            clear H1
            exact absurd H (by cases k1 <;> first | (simp [laws_FnHandles.j1]; done) | ((repeat' split) <;> simp_all [laws_FnHandles.j1]))
          ·replace c32 := Bool.eq_false_iff.mpr c32
           subst c32
           have c31p : ¬ ((x239001_1.length : Int) > 0) := by
            cases hd_ : decide ((x239001_1.length : Int) > 0) with
            | true => rw [hd_] at c31b0; exact absurd c31b0 (by decide)
            | false => exact of_decide_eq_false hd_
           have c31q : decide (0 < x239001_1.length) = false := decide_eq_false (by omega)
           have c31r : decide (0 < (x239001_1.length : Int)) = false := decide_eq_false (by omega)
           have c31s := eq_false (show ¬ 0 < x239001_1.length by omega)
           have H1 : (laws_FnHandles.j1 k1 l0 x5_1 x6_1 x7_1 t252 false false t246 t249) = some true := by rw [if_neg (show ¬ (false = true) by decide)] at H; exact H
           clear H
           have H := H1
           clear H1
           have H' := Aside0.mk H
           clear H
           have hnb44 := NB238_254.out
           have hnc44 := NB254_238.out
           have hcz45_0 : w26.cell? ⟨gb238, 0, none⟩ = some (.slice Ao23 x239000_1.length co23) := (blk_cell BK238.out 0).trans rfl
           have hcz45_1 : w26.cell? ⟨gb238, 1, none⟩ = some (.slice Ao24 x239001_1.length co24) := (blk_cell BK238.out 1).trans rfl
           have hfz45_0 := blk_frozen BK238.out 0
           have hfz45_1 := blk_frozen BK238.out 1
           go_wp2
           go_meet
           case rel => exact ⟨_, (false), (by first | rfl | (simp; done) | (simp [*]; done)), H', ⟨by have := HK1.out; first | omega | exact Nat.le_refl _⟩, ⟨by (with_reducible repeat (first | apply Kd.R_alloc | apply Kd.R_drewN | apply Kd.R_drew)); exact Kd.R_mono (Kd.R_far (Kd.R_far (Kd.R_types HO_5.out BK254.out (by decide)) (fun _ hk => hk.2) _) (fun _ hk => hk.2) _) (fun _ hk => ⟨hk.1.1.1, ⟨hk.1.1.2, hk.1.2⟩⟩)⟩, ⟨by (with_reducible repeat (first | apply Kd.R_alloc | apply Kd.R_drewN | apply Kd.R_drew)); exact Kd.R_mono (Kd.R_far (Kd.R_far (Kd.R_types HO_6.out BK254.out (by decide)) (fun _ hk => hk.2) _) (fun _ hk => hk.2) _) (fun _ hk => ⟨hk.1.1.1, ⟨hk.1.1.2, hk.1.2⟩⟩)⟩, ⟨by (with_reducible repeat (first | apply Kd.R_alloc | apply Kd.R_drewN | apply Kd.R_drew)); exact Kd.R_mono (Kd.R_far (Kd.R_far (Kd.R_types HO_239000.out BK254.out (by decide)) (fun _ hk => hk.2) _) (fun _ hk => hk.2) _) (fun _ hk => hk.1.2)⟩, ⟨by (with_reducible repeat (first | apply Kd.Q_alloc | apply Kd.Q_drewN | apply Kd.Q_drew)); exact Kd.Q_mono (Kd.Q_far (Kd.Q_far (Kd.Q_types HO_239001.out BK254.out (by decide)) (fun _ hk => hk.2) _) (fun _ hk => hk.2) _) (fun _ hk => ⟨hk.1.1.1, ⟨hk.1.1.2, hk.1.2⟩⟩)⟩, ⟨by (with_reducible repeat (first | apply Kd.R_alloc | apply Kd.R_drewN | apply Kd.R_drew)); exact Kd.R_mono (Kd.R_far (Kd.R_far (Kd.R_types HO248.out BK254.out (by decide)) (fun _ hk => hk.2) _) (fun _ hk => hk.2) _) (fun _ hk => hk.1.2)⟩, ⟨by (with_reducible repeat (first | apply Kd.Q_alloc | apply Kd.Q_drewN | apply Kd.Q_drew)); exact Kd.Q_mono (Kd.Q_far (Kd.Q_far (Kd.Q_types HO251.out BK254.out (by decide)) (fun _ hk => hk.2) _) (fun _ hk => hk.2) _) (fun _ hk => ⟨hk.1.1.1.2, ⟨hk.1.1.2, hk.1.2⟩⟩)⟩, ⟨by (with_reducible repeat (first | refine blk_drewN ?_ _ | refine blk_drew ?_ | refine blk_alloc ?_ _)); refine blk_far ?_ NB238_254.out _; (with_reducible repeat (first | refine blk_drewN ?_ _ | refine blk_drew ?_ | refine blk_alloc ?_ _)); refine blk_far ?_ NB238_254.out _; (with_reducible repeat (first | refine blk_drewN ?_ _ | refine blk_drew ?_ | refine blk_alloc ?_ _)); exact BK238.out⟩, ⟨by (with_reducible repeat (first | refine blk_drewN ?_ _ | refine blk_drew ?_ | refine blk_alloc ?_ _)); refine blk_put (cs := #[.slice Ao27 t246.length co27, .slice none 0 0]) ?_ 1 _ rfl; (with_reducible repeat (first | refine blk_drewN ?_ _ | refine blk_drew ?_ | refine blk_alloc ?_ _)); refine blk_put (cs := #[.slice none 0 0, .slice none 0 0]) ?_ 0 _ rfl; (with_reducible repeat (first | refine blk_drewN ?_ _ | refine blk_drew ?_ | refine blk_alloc ?_ _)); exact BK254.out⟩, ⟨by repeat (first | (with_reducible first | exact HB.out | apply below_alloc | apply pw_below_drewN | apply below_drew1 | refine below_set ?_ GE238.out | refine below_set ?_ GE254.out) | exact HB.out)⟩⟩
        case rest =>
         clear HC21
         (try clear c1); (try clear c2); (try clear p2); (try clear c3); (try clear c4); (try clear c6); (try clear p6); (try clear c7); (try clear c8); (try clear c9); (try clear c10); (try clear c16); (try clear c16b0); (try clear c19); (try clear c19b0); (try clear c19b1); (try clear c28); (try clear c31); (try clear c31b0); (try clear c31b1); (try clear c31b2); (try clear c32); (try clear c34); (try clear c36); (try clear c38); (try clear c44); (try clear hcz10_0 hcz10_1); (try clear hcz22_0 hcz22_1); (try clear hcz29_0 hcz29_1); (try clear hcz39_0 hcz39_1); (try clear hcz40_0 hcz40_1); (try clear hcz45_0 hcz45_1); (try clear hfz10_0 hfz10_1); (try clear hfz22_0 hfz22_1); (try clear hfz29_0 hfz29_1); (try clear hfz39_0 hfz39_1); (try clear hfz40_0 hfz40_1); (try clear hfz45_0 hfz45_1); (try clear p2); (try clear p6)
         obtain ⟨kq, x73_20, rfl, HA, HJ20, HO_5, HO_6, HO_239000, HO_239001, HO_255000, HO_255001, BK238, BK254, HB⟩ := hcut
         cases kq with
         | zero => exact absurd HA.out (by simp [laws_FnHandles.j1])
         | succ kj20 =>
          have H := HA.out
          clear HA
          simp only [laws_FnHandles.j1] at H
          by_cases c46 : x73_20 = true
          ·subst c46
           have H1 : (some false) = some true := by rw [if_pos rfl] at H; exact H
           clear H
           have H := H1
           clear H1
           exact absurd H (by first | (simp; done) | ((repeat' split) <;> simp))
          ·replace c46 := Bool.eq_false_iff.mpr c46
           subst c46
           have H1 : (if t253 = true then (if x5_1.length < 17592186044416 then ((impl_Put.f kj20 t246 t249 t252 (Int.tmod x7_1 3) x7_1).bind fun bt261 => ((impl_Get.f kj20 bt261.1 bt261.2.1 t252 (Int.tmod x7_1 3)).bind fun bt269 => (if bt261.2.2 = true then (if bt269.2 = true then (if bt269.1 = x7_1 then (laws_FnHandles.j2 kj20 l0 (x5_1 ++ [t252]) x6_1 x7_1 t246 t249) else (some false)) else (some false)) else (some false)))) else (none)) else (laws_FnHandles.j2 kj20 l0 x5_1 x6_1 x7_1 t246 t249)) = some true := by rw [if_neg (show ¬ (false = true) by decide)] at H; exact H
           clear H
           have H := H1
           clear H1
           by_cases c47 : t253 = true
           ·subst c47
            have H1 : (if x5_1.length < 17592186044416 then ((impl_Put.f kj20 t246 t249 t252 (Int.tmod x7_1 3) x7_1).bind fun bt261 => ((impl_Get.f kj20 bt261.1 bt261.2.1 t252 (Int.tmod x7_1 3)).bind fun bt269 => (if bt261.2.2 = true then (if bt269.2 = true then (if bt269.1 = x7_1 then (laws_FnHandles.j2 kj20 l0 (x5_1 ++ [t252]) x6_1 x7_1 t246 t249) else (some false)) else (some false)) else (some false)))) else (none)) = some true := by rw [if_pos rfl] at H; exact H
            clear H
            have H := H1
            clear H1
            by_cases c48 : x5_1.length < 17592186044416
            ·rw [if_pos c48] at H
             have LMc48 := Aside0.mk c48
             clear c48
             obtain ⟨y258, hy258⟩ : ∃ y_ : List Int, y_ = (x5_1 ++ [t252]) := ⟨_, rfl⟩
             replace H : ((impl_Put.f kj20 t246 t249 t252 (Int.tmod x7_1 3) x7_1).bind fun bt261 => ((impl_Get.f kj20 bt261.1 bt261.2.1 t252 (Int.tmod x7_1 3)).bind fun bt269 => (if bt261.2.2 = true then (if bt269.2 = true then (if bt269.1 = x7_1 then (laws_FnHandles.j2 kj20 l0 y258 x6_1 x7_1 t246 t249) else (some false)) else (some false)) else (some false)))) = some true := by first | (rw [hy258]; with_reducible exact H) | (have H2_ := (Option.bind_some _ _).symm.trans H; rw [hy258]; with_reducible exact H2_) | (have H2_ := (Option.bind_some _ _).symm.trans H; with_reducible exact H2_) | with_reducible exact H | (rw [hy258]; exact H) | exact H
             have Ny258 := Aside0.mk hy258
             clear hy258
             replace H := Option.bind_eq_some_iff.mp H
             obtain ⟨⟨t261, t264, t267⟩, A490, H⟩ := H
             replace H : ((impl_Get.f kj20 t261 t264 t252 (Int.tmod x7_1 3)).bind fun bt269 => (if t267 = true then (if bt269.2 = true then (if bt269.1 = x7_1 then (laws_FnHandles.j2 kj20 l0 y258 x6_1 x7_1 t246 t249) else (some false)) else (some false)) else (some false))) = some true := H
             have A49 := Aside0.mk A490
             clear A490
             replace H := Option.bind_eq_some_iff.mp H
             obtain ⟨⟨t269, t270⟩, A500, H⟩ := H
             replace H : (if t267 = true then (if t270 = true then (if t269 = x7_1 then (laws_FnHandles.j2 kj20 l0 y258 x6_1 x7_1 t246 t249) else (some false)) else (some false)) else (some false)) = some true := H
             have A50 := Aside0.mk A500
             clear A500
             by_cases c51 : t267 = true
             ·subst c51
              have H1 : (if t270 = true then (if t269 = x7_1 then (laws_FnHandles.j2 kj20 l0 y258 x6_1 x7_1 t246 t249) else (some false)) else (some false)) = some true := by rw [if_pos rfl] at H; exact H
              clear H
              have H := H1
              clear H1
              by_cases c52 : t270 = true
              ·subst c52
               have H1 : (if t269 = x7_1 then (laws_FnHandles.j2 kj20 l0 y258 x6_1 x7_1 t246 t249) else (some false)) = some true := by rw [if_pos rfl] at H; exact H
               clear H
               have H := H1
               clear H1
               by_cases c53 : t269 = x7_1
               ·rw [if_pos c53] at H
                have c53b0 : (t269 == x7_1) = true := beq_iff_eq.mpr c53
                have c53b1 : (t269 != x7_1) = false := bne_eq_false_iff_eq.mpr c53
                clear c53
                have H' := Aside0.mk H
                clear H
                have hnb54 := NB254_238.out
                have hnc54 := NB238_254.out
                have hcz55_0 : wc.cell? ⟨gb254, 0, none⟩ = some (.slice Ao27 t246.length co27) := (blk_cell BK254.out 0).trans rfl
                have hcz55_1 : wc.cell? ⟨gb254, 1, none⟩ = some (.slice Ao30 t249.length co30) := (blk_cell BK254.out 1).trans rfl
                have hfz55_0 := blk_frozen BK254.out 0
                have hfz55_1 := blk_frozen BK254.out 1
                have hcz56_0 : wc.cell? ⟨gb238, 0, none⟩ = some (.slice Ao23 x239000_1.length co23) := (blk_cell BK238.out 0).trans rfl
                have hcz56_1 : wc.cell? ⟨gb238, 1, none⟩ = some (.slice Ao24 x239001_1.length co24) := (blk_cell BK238.out 1).trans rfl
                have hfz56_0 := blk_frozen BK238.out 0
                have hfz56_1 := blk_frozen BK238.out 1
                go_wp2_with (first | ((with_reducible refine gate_builtin (b := .append) (xs := #[.tmp 76, .tmp 78]) rfl ?_); (try (refine gate_guard (by rfl) ?_; dsimp only)); at_builtin; refine Kd.R_append (Kd.int .i64) (w0 := w) w.heap.size rfl (.tmp 76) (.tmp 78) 27 3 (.int .i64 0) 8 rfl Tryd.underlying27 info3 rfl (by decide) (by omega) u5 x5_1 t252 [.int .i64 t252] (fun k_ => some k_ ≠ (u6 : Value).ownBlock ∧ some k_ ≠ (.slice Ao24 x239001_1.length co24 : Value).ownBlock ∧ some k_ ≠ (.slice Ao30 t249.length co30 : Value).ownBlock) (fun _ => False) rfl (by first | (go_simp; done) | (go_simp; rfl)) ?aP (fun _ hk => hk.elim) ?aF ?aO ?aB ?aS ?aL ?_; (case aP => exact rfl); (case aB => exact (by repeat (first | (with_reducible first | exact HB.out | apply below_alloc | apply pw_below_drewN | apply below_drew1 | refine below_set ?_ GE238.out | refine below_set ?_ GE254.out) | exact HB.out))); (case aF => exact (fun k_ hk => ⟨Kd.fresh' (Kd.R_lt (by (with_reducible repeat (first | apply Kd.R_alloc | apply Kd.R_drewN | apply Kd.R_drew)); exact (Kd.R_mono (Kd.R_far (Kd.R_far (Kd.R_types HO_6.out BK238.out (by decide)) (fun _ hk => hk.2) _) (fun _ hk => hk.2) _) (fun _ h_ => h_.1)))) k_ hk, Kd.fresh' (Kd.Q_lt (by (with_reducible repeat (first | apply Kd.Q_alloc | apply Kd.Q_drewN | apply Kd.Q_drew)); exact (Kd.Q_mono (Kd.Q_far (Kd.Q_far (Kd.Q_types HO_239001.out BK238.out (by decide)) (fun _ hk => hk.2) _) (fun _ hk => hk.2) _) (fun _ h_ => h_.1)))) k_ hk, Kd.fresh' (Kd.Q_lt (by (with_reducible repeat (first | apply Kd.Q_alloc | apply Kd.Q_drewN | apply Kd.Q_drew)); exact (Kd.Q_mono (Kd.Q_far (Kd.Q_far (Kd.Q_types HO_255001.out BK238.out (by decide)) (fun _ hk => hk.2) _) (fun _ hk => hk.2) _) (fun _ h_ => h_.1)))) k_ hk⟩)); (case aO => exact (by (with_reducible repeat (first | apply Kd.R_alloc | apply Kd.R_drewN | apply Kd.R_drew)); exact Kd.R_mono (Kd.R_far (Kd.R_far (Kd.R_types HO_5.out BK238.out (by decide)) (fun _ hk => hk.2) _) (fun _ hk => hk.2) _) (fun _ hk => ⟨hk.1.1, ⟨hk.1.2.1, hk.1.2.2⟩⟩))); (case aS => exact (below_size (by repeat (first | (with_reducible first | exact HB.out | apply below_alloc | apply pw_below_drewN | apply below_drew1 | refine below_set ?_ GE238.out | refine below_set ?_ GE254.out) | exact HB.out)))); (case aL => have := LMc48.out; omega); intro v259 w57 ho hb hg hat; rw [← Ny258.out] at ho; have n0_ := Aside0.mk (Kd.R_after (ok := (fun k_ => some k_ ≠ (.slice Ao24 x239001_1.length co24 : Value).ownBlock ∧ some k_ ≠ (.slice Ao30 t249.length co30 : Value).ownBlock)) (by (with_reducible repeat (first | apply Kd.R_alloc | apply Kd.R_drewN | apply Kd.R_drew)); exact Kd.R_mono (Kd.R_far (Kd.R_far (Kd.R_types HO_6.out BK238.out (by decide)) (fun _ hk => hk.2) _) (fun _ hk => hk.2) _) (fun _ hk => ⟨⟨hk.1.2.1, hk.1.2.2⟩, hk.1.1⟩)) hg hat); have n1_ := Aside0.mk (Kd.R_over' (by (with_reducible repeat (first | apply Kd.R_alloc | apply Kd.R_drewN | apply Kd.R_drew)); exact (Kd.R_mono (Kd.R_far (Kd.R_far (Kd.R_types HO_239000.out BK238.out (by decide)) (fun _ hk => hk.2) _) (fun _ hk => hk.2) _) (fun _ h_ => h_.1))) (Kd.R_typed (by (with_reducible repeat (first | apply Kd.R_alloc | apply Kd.R_drewN | apply Kd.R_drew)); exact (Kd.R_mono (Kd.R_far (Kd.R_far (Kd.R_types HO_5.out BK238.out (by decide)) (fun _ hk => hk.2) _) (fun _ hk => hk.2) _) (fun _ h_ => h_.1)))) (by decide) hg); have n2_ := Aside0.mk (Kd.Q_after (ok := (fun k_ => some k_ ≠ (u6 : Value).ownBlock ∧ some k_ ≠ (.slice Ao30 t249.length co30 : Value).ownBlock)) (by (with_reducible repeat (first | apply Kd.Q_alloc | apply Kd.Q_drewN | apply Kd.Q_drew)); exact Kd.Q_mono (Kd.Q_far (Kd.Q_far (Kd.Q_types HO_239001.out BK238.out (by decide)) (fun _ hk => hk.2) _) (fun _ hk => hk.2) _) (fun _ hk => ⟨⟨hk.1.2.1, hk.1.2.2⟩, hk.1.1⟩)) hg hat); have n3_ := Aside0.mk (Kd.R_over' (by (with_reducible repeat (first | apply Kd.R_alloc | apply Kd.R_drewN | apply Kd.R_drew)); exact (Kd.R_mono (Kd.R_far (Kd.R_far (Kd.R_types HO_255000.out BK238.out (by decide)) (fun _ hk => hk.2) _) (fun _ hk => hk.2) _) (fun _ h_ => h_.1))) (Kd.R_typed (by (with_reducible repeat (first | apply Kd.R_alloc | apply Kd.R_drewN | apply Kd.R_drew)); exact (Kd.R_mono (Kd.R_far (Kd.R_far (Kd.R_types HO_5.out BK238.out (by decide)) (fun _ hk => hk.2) _) (fun _ hk => hk.2) _) (fun _ h_ => h_.1)))) (by decide) hg); have n4_ := Aside0.mk (Kd.Q_after (ok := (fun k_ => some k_ ≠ (u6 : Value).ownBlock ∧ some k_ ≠ (.slice Ao24 x239001_1.length co24 : Value).ownBlock)) (by (with_reducible repeat (first | apply Kd.Q_alloc | apply Kd.Q_drewN | apply Kd.Q_drew)); exact Kd.Q_mono (Kd.Q_far (Kd.Q_far (Kd.Q_types HO_255001.out BK238.out (by decide)) (fun _ hk => hk.2) _) (fun _ hk => hk.2) _) (fun _ hk => ⟨⟨hk.1.2.1, hk.1.2.2⟩, hk.1.1⟩)) hg hat); have n5_ := Aside0.mk (blk_grown (g := gb238) (o := .cells #[.slice Ao27 t246.length co27, .slice Ao30 t249.length co30] 29 (0, 0)) (by (with_reducible repeat (first | refine blk_drewN ?_ _ | refine blk_drew ?_ | refine blk_alloc ?_ _)); refine blk_put (cs := #[.slice Ao27 t246.length co27, .slice Ao24 x239001_1.length co24]) ?_ 1 _ rfl; (with_reducible repeat (first | refine blk_drewN ?_ _ | refine blk_drew ?_ | refine blk_alloc ?_ _)); refine blk_put (cs := #[.slice Ao23 x239000_1.length co23, .slice Ao24 x239001_1.length co24]) ?_ 0 _ rfl; (with_reducible repeat (first | refine blk_drewN ?_ _ | refine blk_drew ?_ | refine blk_alloc ?_ _)); exact BK238.out) hg (Kd.R_ne HO_5.out BK238.out (by decide))); have n6_ := Aside0.mk (blk_grown (g := gb254) (o := .cells #[.slice Ao27 t246.length co27, .slice Ao30 t249.length co30] 29 (0, 0)) (by (with_reducible repeat (first | refine blk_drewN ?_ _ | refine blk_drew ?_ | refine blk_alloc ?_ _)); refine blk_far ?_ NB254_238.out _; (with_reducible repeat (first | refine blk_drewN ?_ _ | refine blk_drew ?_ | refine blk_alloc ?_ _)); refine blk_far ?_ NB254_238.out _; (with_reducible repeat (first | refine blk_drewN ?_ _ | refine blk_drew ?_ | refine blk_alloc ?_ _)); exact BK254.out) hg (Kd.R_ne HO_5.out BK254.out (by decide))); have n7_ := Aside0.mk (hb); have n8_ := Aside0.mk (ho); clear HO_6; clear HO_239000; clear HO_239001; clear HO_255000; clear HO_255001; clear BK238; clear BK254; clear HB; clear HO_5; have HO_6 := n0_; have HO_239000 := n1_; have HO_239001 := n2_; have HO_255000 := n3_; have HO_255001 := n4_; have BK238 := n5_; have BK254 := n6_; have HB := n7_; have HO260 := n8_; clear n0_ n1_ n2_ n3_ n4_ n5_ n6_ n7_ n8_; clear ho hb hg hat; have hcz58_0 : w57.cell? ⟨gb238, 0, none⟩ = some (.slice Ao27 t246.length co27) := (blk_cell BK238.out 0).trans rfl; have hcz58_1 : w57.cell? ⟨gb238, 1, none⟩ = some (.slice Ao30 t249.length co30) := (blk_cell BK238.out 1).trans rfl; have hfz58_0 := blk_frozen BK238.out 0; have hfz58_1 := blk_frozen BK238.out 1) | ((with_reducible refine gate_callee (f := 13) rfl ?_); refine goesL_ (some 86) rfl rfl Tryd.func13 (by kernel_rfl) rfl #[.agg #[.slice Ao27 t246.length co27, .slice Ao30 t249.length co30], .int .i64 t252, .int .i64 (Int.tmod x7_1 3), .int .i64 x7_1] rfl (by (try simp only [List.map_toArray, List.map_cons, List.map_nil]); first | done | rfl | (simp only [List.length_drop, List.length_take]; rfl)) ?_; (with_reducible refine (impl_Put.calls kj20 _ _ t246 _ _ t249 t252 (Int.tmod x7_1 3) x7_1 t261 t264 true _ ?side1 ?side2 ?side3 ?side4 A49.out).mono ?_); (case side1 => repeat (first | exact (Kd.R_reads' HO_255000.out).2.2 | (with_reducible refine Kd.C_alloc ?_ _) | (with_reducible refine Kd.C_drewN ?_ _) | (with_reducible refine Kd.C_drew ?_))); (case side2 => exact (Kd.R_reads' HO_255000.out).2.1); (case side3 => repeat (first | exact (Kd.Q_reads' HO_255001.out).2.2 | (with_reducible refine Kd.C_alloc ?_ _) | (with_reducible refine Kd.C_drewN ?_ _) | (with_reducible refine Kd.C_drew ?_))); (case side4 => exact (Kd.Q_reads' HO_255001.out).2.1); rintro e w59 ⟨v262, v265, rfl, ho0, ho1, hb⟩; refine ⟨_, rfl, ?_⟩; have n0_ := Aside0.mk (Kd.R_elder' (by (with_reducible repeat (first | apply Kd.R_alloc | apply Kd.R_drewN | apply Kd.R_drew)); exact HO_6.out) (Kd.R_base ho1) hb); have n1_ := Aside0.mk (Kd.R_elder' (by (with_reducible repeat (first | apply Kd.R_alloc | apply Kd.R_drewN | apply Kd.R_drew)); exact HO_239000.out) (Kd.R_base ho0) hb); have n2_ := Aside0.mk (Kd.Q_elder' (by (with_reducible repeat (first | apply Kd.Q_alloc | apply Kd.Q_drewN | apply Kd.Q_drew)); exact HO_239001.out) (Kd.R_base ho1) hb); have n3_ := Aside0.mk (Kd.R_elder' (by (with_reducible repeat (first | apply Kd.R_alloc | apply Kd.R_drewN | apply Kd.R_drew)); exact HO_255000.out) (Kd.R_base ho0) hb); have n4_ := Aside0.mk (Kd.Q_elder' (by (with_reducible repeat (first | apply Kd.Q_alloc | apply Kd.Q_drewN | apply Kd.Q_drew)); exact HO_255001.out) (Kd.R_base ho1) hb); have n5_ := Aside0.mk (Kd.R_elder' (by (with_reducible repeat (first | apply Kd.R_alloc | apply Kd.R_drewN | apply Kd.R_drew)); exact HO260.out) (Kd.R_base ho1) hb); have n6_ := Aside0.mk (Kd.R_lower (Kd.R_new' (Kd.R_new' ho0 (Kd.R_lt (by (with_reducible repeat (first | apply Kd.R_alloc | apply Kd.R_drewN | apply Kd.R_drew)); exact HO_239000.out))) (Kd.R_lt (by (with_reducible repeat (first | apply Kd.R_alloc | apply Kd.R_drewN | apply Kd.R_drew)); exact HO_255000.out))) (below_size (by repeat (first | (with_reducible first | exact HB.out | apply below_alloc | apply pw_below_drewN | apply below_drew1 | refine below_set ?_ GE238.out | refine below_set ?_ GE254.out) | exact HB.out)))); have n7_ := Aside0.mk (Kd.R_lower (Kd.R_new' (Kd.R_new' (Kd.R_new' (Kd.R_new' ho1 (Kd.R_lt (by (with_reducible repeat (first | apply Kd.R_alloc | apply Kd.R_drewN | apply Kd.R_drew)); exact HO_6.out))) (Kd.Q_lt (by (with_reducible repeat (first | apply Kd.Q_alloc | apply Kd.Q_drewN | apply Kd.Q_drew)); exact HO_239001.out))) (Kd.Q_lt (by (with_reducible repeat (first | apply Kd.Q_alloc | apply Kd.Q_drewN | apply Kd.Q_drew)); exact HO_255001.out))) (Kd.R_lt (by (with_reducible repeat (first | apply Kd.R_alloc | apply Kd.R_drewN | apply Kd.R_drew)); exact HO260.out))) (below_size (by repeat (first | (with_reducible first | exact HB.out | apply below_alloc | apply pw_below_drewN | apply below_drew1 | refine below_set ?_ GE238.out | refine below_set ?_ GE254.out) | exact HB.out)))); have n8_ := Aside0.mk (blk_below (g := gb238) (o := .cells #[.slice Ao27 t246.length co27, .slice Ao30 t249.length co30] 29 (0, 0)) (by (with_reducible repeat (first | refine blk_drewN ?_ _ | refine blk_drew ?_ | refine blk_alloc ?_ _)); exact BK238.out) hb); have n9_ := Aside0.mk (blk_below (g := gb254) (o := .cells #[.slice Ao27 t246.length co27, .slice Ao30 t249.length co30] 29 (0, 0)) (by (with_reducible repeat (first | refine blk_drewN ?_ _ | refine blk_drew ?_ | refine blk_alloc ?_ _)); exact BK254.out) hb); have n10_ := Aside0.mk (below_step (by repeat (first | (with_reducible first | exact HB.out | apply below_alloc | apply pw_below_drewN | apply below_drew1 | refine below_set ?_ GE238.out | refine below_set ?_ GE254.out) | exact HB.out)) hb); clear HO_6; clear HO_239000; clear HO_239001; clear HO_255000; clear HO_255001; clear HO260; clear BK238; clear BK254; clear HB; have HO_6 := n0_; have HO_239000 := n1_; have HO_239001 := n2_; have HO_255000 := n3_; have HO_255001 := n4_; have HO260 := n5_; have HO263 := n6_; have HO266 := n7_; have BK238 := n8_; have BK254 := n9_; have HB := n10_; clear n0_ n1_ n2_ n3_ n4_ n5_ n6_ n7_ n8_ n9_ n10_; (try clear hb); (try clear hb2); (try clear hk); (try clear hi); (try clear ho0); (try clear ho1)) | ((with_reducible refine gate_dst (N := 11) rfl ?_); (try (refine gate_guard (by rfl) ?_; dsimp only)); refine box_event ?hg (N := 11) ?hd (cs := #[.slice none 0 0, .slice none 0 0]) (t := 29) ?hr ?_; (case hd => rfl); (case hg => rfl); (case hr => first | (go_simp; done) | (go_simp; rfl)); intro gb268 hg w60 hbox hb; have n0_ := Aside0.mk (Kd.R_below (by (with_reducible repeat (first | apply Kd.R_alloc | apply Kd.R_drewN | apply Kd.R_drew)); exact HO_6.out) hb); have n1_ := Aside0.mk (Kd.R_below (by (with_reducible repeat (first | apply Kd.R_alloc | apply Kd.R_drewN | apply Kd.R_drew)); exact HO_239000.out) hb); have n2_ := Aside0.mk (Kd.Q_below (by (with_reducible repeat (first | apply Kd.Q_alloc | apply Kd.Q_drewN | apply Kd.Q_drew)); exact HO_239001.out) hb); have n3_ := Aside0.mk (Kd.R_below (by (with_reducible repeat (first | apply Kd.R_alloc | apply Kd.R_drewN | apply Kd.R_drew)); exact HO_255000.out) hb); have n4_ := Aside0.mk (Kd.Q_below (by (with_reducible repeat (first | apply Kd.Q_alloc | apply Kd.Q_drewN | apply Kd.Q_drew)); exact HO_255001.out) hb); have n5_ := Aside0.mk (Kd.R_below (by (with_reducible repeat (first | apply Kd.R_alloc | apply Kd.R_drewN | apply Kd.R_drew)); exact HO260.out) hb); have n6_ := Aside0.mk (Kd.R_below (by (with_reducible repeat (first | apply Kd.R_alloc | apply Kd.R_drewN | apply Kd.R_drew)); exact HO263.out) hb); have n7_ := Aside0.mk (Kd.R_below (by (with_reducible repeat (first | apply Kd.R_alloc | apply Kd.R_drewN | apply Kd.R_drew)); exact HO266.out) hb); have n8_ := Aside0.mk (blk_below (g := gb238) (o := .cells #[.slice Ao27 t246.length co27, .slice Ao30 t249.length co30] 29 (0, 0)) (by (with_reducible repeat (first | refine blk_drewN ?_ _ | refine blk_drew ?_ | refine blk_alloc ?_ _)); exact BK238.out) hb); have n9_ := Aside0.mk (blk_below (g := gb254) (o := .cells #[.slice Ao27 t246.length co27, .slice Ao30 t249.length co30] 29 (0, 0)) (by (with_reducible repeat (first | refine blk_drewN ?_ _ | refine blk_drew ?_ | refine blk_alloc ?_ _)); exact BK254.out) hb); have n10_ := Aside0.mk (below_step (by repeat (first | (with_reducible first | exact HB.out | apply below_alloc | apply pw_below_drewN | apply below_drew1 | refine below_set ?_ GE238.out | refine below_set ?_ GE254.out) | exact HB.out)) hb); have n11_ := Aside0.mk (hbox); have n12_ := Aside0.mk ((by rw [hg]; exact (below_size (by repeat (first | (with_reducible first | exact HB.out | apply below_alloc | apply pw_below_drewN | apply below_drew1 | refine below_set ?_ GE238.out | refine below_set ?_ GE254.out) | exact HB.out))) : w.heap.size ≤ gb268)); have n13_ := Aside0.mk ((by rw [hg]; exact (below_size (by repeat (first | (with_reducible first | exact HB.out | apply below_alloc | apply pw_below_drewN | apply below_drew1 | refine below_set ?_ GE238.out | refine below_set ?_ GE254.out) | exact HB.out))) : w.heap.size ≤ gb268)); have n14_ := Aside0.mk ((by rw [hg]; exact Nat.ne_of_lt (blk_lt (g := gb238) (o := .cells #[.slice Ao27 t246.length co27, .slice Ao30 t249.length co30] 29 (0, 0)) (by (with_reducible repeat (first | refine blk_drewN ?_ _ | refine blk_drew ?_ | refine blk_alloc ?_ _)); exact BK238.out)) : gb238 ≠ gb268)); have n15_ := Aside0.mk ((by rw [hg]; exact Nat.ne_of_gt (blk_lt (g := gb238) (o := .cells #[.slice Ao27 t246.length co27, .slice Ao30 t249.length co30] 29 (0, 0)) (by (with_reducible repeat (first | refine blk_drewN ?_ _ | refine blk_drew ?_ | refine blk_alloc ?_ _)); exact BK238.out)) : gb268 ≠ gb238)); have n16_ := Aside0.mk ((by rw [hg]; exact Nat.ne_of_lt (blk_lt (g := gb254) (o := .cells #[.slice Ao27 t246.length co27, .slice Ao30 t249.length co30] 29 (0, 0)) (by (with_reducible repeat (first | refine blk_drewN ?_ _ | refine blk_drew ?_ | refine blk_alloc ?_ _)); exact BK254.out)) : gb254 ≠ gb268)); have n17_ := Aside0.mk ((by rw [hg]; exact Nat.ne_of_gt (blk_lt (g := gb254) (o := .cells #[.slice Ao27 t246.length co27, .slice Ao30 t249.length co30] 29 (0, 0)) (by (with_reducible repeat (first | refine blk_drewN ?_ _ | refine blk_drew ?_ | refine blk_alloc ?_ _)); exact BK254.out)) : gb268 ≠ gb254)); clear HO_6; clear HO_239000; clear HO_239001; clear HO_255000; clear HO_255001; clear HO260; clear HO263; clear HO266; clear BK238; clear BK254; clear HB; have HO_6 := n0_; have HO_239000 := n1_; have HO_239001 := n2_; have HO_255000 := n3_; have HO_255001 := n4_; have HO260 := n5_; have HO263 := n6_; have HO266 := n7_; have BK238 := n8_; have BK254 := n9_; have HB := n10_; have BK268 := n11_; have GW268 := n12_; have GE268 := n13_; have NB238_268 := n14_; have NB268_238 := n15_; have NB254_268 := n16_; have NB268_254 := n17_; clear n0_ n1_ n2_ n3_ n4_ n5_ n6_ n7_ n8_ n9_ n10_ n11_ n12_ n13_ n14_ n15_ n16_ n17_; clear hb hbox hg; obtain ⟨Ao61, co61, eo61⟩ := Kd.R_slice HO263.out; subst eo61; have hnb62 := NB268_238.out; have hnc62 := NB238_268.out; have hnb63 := NB268_254.out; have hnc63 := NB254_268.out; have hcz64_0 : w60.cell? ⟨gb268, 0, none⟩ = some (.slice none 0 0) := (blk_cell BK268.out 0).trans rfl; have hcz64_1 : w60.cell? ⟨gb268, 1, none⟩ = some (.slice none 0 0) := (blk_cell BK268.out 1).trans rfl; have hfz64_0 := blk_frozen BK268.out 0; have hfz64_1 := blk_frozen BK268.out 1; obtain ⟨Ao65, co65, eo65⟩ := Kd.R_slice HO266.out; subst eo65) | ((with_reducible refine gate_callee (f := 14) rfl ?_); refine goesL_ (some 94) rfl rfl Tryd.func14 (by kernel_rfl) rfl #[.agg #[.slice Ao61 t261.length co61, .slice Ao65 t264.length co65], .int .i64 t252, .int .i64 (Int.tmod x7_1 3)] rfl (by (try simp only [List.map_toArray, List.map_cons, List.map_nil]); first | done | rfl | (simp only [List.length_drop, List.length_take]; rfl)) ?_; (with_reducible refine (impl_Get.calls kj20 _ _ t261 _ _ t264 t252 (Int.tmod x7_1 3) t269 true _ ?side1 ?side2 ?side3 ?side4 A50.out).mono ?_); (case side1 => refine (Kd.R_reads' (e := 46) (base := w.heap.size) (ok := fun k_ => ((True ∧ some k_ ≠ (.slice Ao23 x239000_1.length co23 : Value).ownBlock) ∧ some k_ ≠ (.slice Ao27 t246.length co27 : Value).ownBlock)) (n := t261.length) (c := co61) ?_).2.2; exact (by (with_reducible repeat (first | apply Kd.R_alloc | apply Kd.R_drewN | apply Kd.R_drew)); exact (Kd.R_mono (Kd.R_far (Kd.R_far (Kd.R_types HO263.out BK268.out (by decide)) (fun _ hk => hk.2) _) (fun _ hk => hk.2) _) (fun _ h_ => h_.1)))); (case side2 => exact (Kd.R_reads' HO263.out).2.1); (case side3 => refine (Kd.R_reads' (e := 3) (base := w.heap.size) (ok := fun k_ => ((((True ∧ some k_ ≠ (u6 : Value).ownBlock) ∧ some k_ ≠ (.slice Ao24 x239001_1.length co24 : Value).ownBlock) ∧ some k_ ≠ (.slice Ao30 t249.length co30 : Value).ownBlock) ∧ some k_ ≠ (v259 : Value).ownBlock)) (n := t264.length) (c := co65) ?_).2.2; exact (by (with_reducible repeat (first | apply Kd.R_alloc | apply Kd.R_drewN | apply Kd.R_drew)); exact (Kd.R_mono (Kd.R_far (Kd.R_far (Kd.R_types HO266.out BK268.out (by decide)) (fun _ hk => hk.2) _) (fun _ hk => hk.2) _) (fun _ h_ => h_.1)))); (case side4 => exact (Kd.R_reads' HO266.out).2.1); rintro e w66 ⟨rfl, hb⟩; refine ⟨_, rfl, ?_⟩; have n0_ := Aside0.mk (Kd.R_below (by (with_reducible repeat (first | apply Kd.R_alloc | apply Kd.R_drewN | apply Kd.R_drew)); exact (Kd.R_mono (Kd.R_far (Kd.R_far (Kd.R_types HO_6.out BK268.out (by decide)) (fun _ hk => hk.2) _) (fun _ hk => hk.2) _) (fun _ h_ => h_.1))) hb); have n1_ := Aside0.mk (Kd.R_below (by (with_reducible repeat (first | apply Kd.R_alloc | apply Kd.R_drewN | apply Kd.R_drew)); exact (Kd.R_mono (Kd.R_far (Kd.R_far (Kd.R_types HO_239000.out BK268.out (by decide)) (fun _ hk => hk.2) _) (fun _ hk => hk.2) _) (fun _ h_ => h_.1))) hb); have n2_ := Aside0.mk (Kd.Q_below (by (with_reducible repeat (first | apply Kd.Q_alloc | apply Kd.Q_drewN | apply Kd.Q_drew)); exact (Kd.Q_mono (Kd.Q_far (Kd.Q_far (Kd.Q_types HO_239001.out BK268.out (by decide)) (fun _ hk => hk.2) _) (fun _ hk => hk.2) _) (fun _ h_ => h_.1))) hb); have n3_ := Aside0.mk (Kd.R_below (by (with_reducible repeat (first | apply Kd.R_alloc | apply Kd.R_drewN | apply Kd.R_drew)); exact (Kd.R_mono (Kd.R_far (Kd.R_far (Kd.R_types HO_255000.out BK268.out (by decide)) (fun _ hk => hk.2) _) (fun _ hk => hk.2) _) (fun _ h_ => h_.1))) hb); have n4_ := Aside0.mk (Kd.Q_below (by (with_reducible repeat (first | apply Kd.Q_alloc | apply Kd.Q_drewN | apply Kd.Q_drew)); exact (Kd.Q_mono (Kd.Q_far (Kd.Q_far (Kd.Q_types HO_255001.out BK268.out (by decide)) (fun _ hk => hk.2) _) (fun _ hk => hk.2) _) (fun _ h_ => h_.1))) hb); have n5_ := Aside0.mk (Kd.R_below (by (with_reducible repeat (first | apply Kd.R_alloc | apply Kd.R_drewN | apply Kd.R_drew)); exact (Kd.R_mono (Kd.R_far (Kd.R_far (Kd.R_types HO260.out BK268.out (by decide)) (fun _ hk => hk.2) _) (fun _ hk => hk.2) _) (fun _ h_ => h_.1))) hb); have n6_ := Aside0.mk (Kd.R_below (by (with_reducible repeat (first | apply Kd.R_alloc | apply Kd.R_drewN | apply Kd.R_drew)); exact (Kd.R_mono (Kd.R_far (Kd.R_far (Kd.R_types HO263.out BK268.out (by decide)) (fun _ hk => hk.2) _) (fun _ hk => hk.2) _) (fun _ h_ => h_.1))) hb); have n7_ := Aside0.mk (Kd.R_below (by (with_reducible repeat (first | apply Kd.R_alloc | apply Kd.R_drewN | apply Kd.R_drew)); exact (Kd.R_mono (Kd.R_far (Kd.R_far (Kd.R_types HO266.out BK268.out (by decide)) (fun _ hk => hk.2) _) (fun _ hk => hk.2) _) (fun _ h_ => h_.1))) hb); have n8_ := Aside0.mk (blk_below (g := gb238) (o := .cells #[.slice Ao27 t246.length co27, .slice Ao30 t249.length co30] 29 (0, 0)) (by (with_reducible repeat (first | refine blk_drewN ?_ _ | refine blk_drew ?_ | refine blk_alloc ?_ _)); refine blk_far ?_ NB238_268.out _; (with_reducible repeat (first | refine blk_drewN ?_ _ | refine blk_drew ?_ | refine blk_alloc ?_ _)); refine blk_far ?_ NB238_268.out _; (with_reducible repeat (first | refine blk_drewN ?_ _ | refine blk_drew ?_ | refine blk_alloc ?_ _)); exact BK238.out) hb); have n9_ := Aside0.mk (blk_below (g := gb254) (o := .cells #[.slice Ao27 t246.length co27, .slice Ao30 t249.length co30] 29 (0, 0)) (by (with_reducible repeat (first | refine blk_drewN ?_ _ | refine blk_drew ?_ | refine blk_alloc ?_ _)); refine blk_far ?_ NB254_268.out _; (with_reducible repeat (first | refine blk_drewN ?_ _ | refine blk_drew ?_ | refine blk_alloc ?_ _)); refine blk_far ?_ NB254_268.out _; (with_reducible repeat (first | refine blk_drewN ?_ _ | refine blk_drew ?_ | refine blk_alloc ?_ _)); exact BK254.out) hb); have n10_ := Aside0.mk (blk_below (g := gb268) (o := .cells #[.slice Ao61 t261.length co61, .slice Ao65 t264.length co65] 29 (0, 0)) (by (with_reducible repeat (first | refine blk_drewN ?_ _ | refine blk_drew ?_ | refine blk_alloc ?_ _)); refine blk_put (cs := #[.slice Ao61 t261.length co61, .slice none 0 0]) ?_ 1 _ rfl; (with_reducible repeat (first | refine blk_drewN ?_ _ | refine blk_drew ?_ | refine blk_alloc ?_ _)); refine blk_put (cs := #[.slice none 0 0, .slice none 0 0]) ?_ 0 _ rfl; (with_reducible repeat (first | refine blk_drewN ?_ _ | refine blk_drew ?_ | refine blk_alloc ?_ _)); exact BK268.out) hb); have n11_ := Aside0.mk (below_step (by repeat (first | (with_reducible first | exact HB.out | apply below_alloc | apply pw_below_drewN | apply below_drew1 | refine below_set ?_ GE238.out | refine below_set ?_ GE254.out | refine below_set ?_ GE268.out) | exact HB.out)) hb); clear HO_6; clear HO_239000; clear HO_239001; clear HO_255000; clear HO_255001; clear HO260; clear HO263; clear HO266; clear BK238; clear BK254; clear BK268; clear HB; have HO_6 := n0_; have HO_239000 := n1_; have HO_239001 := n2_; have HO_255000 := n3_; have HO_255001 := n4_; have HO260 := n5_; have HO263 := n6_; have HO266 := n7_; have BK238 := n8_; have BK254 := n9_; have BK268 := n10_; have HB := n11_; clear n0_ n1_ n2_ n3_ n4_ n5_ n6_ n7_ n8_ n9_ n10_ n11_; (try clear hb); (try clear hb2); (try clear hk); (try clear hi)))
                go_meet
                case rel => exact ⟨_, (y258), (x6_1), (t246), (t249), (.slice Ao27 t246.length co27), (.slice Ao30 t249.length co30), H', ⟨by have := HK1.out; have := HJ20.out; first | omega | exact Nat.le_refl _⟩, ⟨by (with_reducible repeat (first | apply Kd.R_alloc | apply Kd.R_drewN | apply Kd.R_drew)); exact Kd.R_mono HO260.out (fun _ hk => ⟨hk.1.1, hk.1.2.2⟩)⟩, ⟨by (with_reducible repeat (first | apply Kd.R_alloc | apply Kd.R_drewN | apply Kd.R_drew)); exact Kd.R_mono HO_6.out (fun _ hk => ⟨hk.1.2, hk.1.1.2⟩)⟩, ⟨by (with_reducible repeat (first | apply Kd.R_alloc | apply Kd.R_drewN | apply Kd.R_drew)); exact Kd.R_mono HO_255000.out (fun _ hk => trivial)⟩, ⟨by (with_reducible repeat (first | apply Kd.Q_alloc | apply Kd.Q_drewN | apply Kd.Q_drew)); exact Kd.Q_mono HO_255001.out (fun _ hk => ⟨hk.1.2, hk.1.1.1⟩)⟩, ⟨by (with_reducible repeat (first | refine blk_drewN ?_ _ | refine blk_drew ?_ | refine blk_alloc ?_ _)); exact BK238.out⟩, ⟨by repeat (first | (with_reducible first | exact HB.out | apply below_alloc | apply pw_below_drewN | apply below_drew1 | refine below_set ?_ GE238.out | refine below_set ?_ GE254.out | refine below_set ?_ GE268.out) | exact HB.out)⟩⟩
               ·rw [if_neg c53] at H
                have c53b0 : (t269 == x7_1) = false := beq_eq_false_iff_ne.mpr c53
                have c53b1 : (t269 != x7_1) = true := bne_iff_ne.mpr c53
                exact absurd H (by first | (simp; done) | ((repeat' split) <;> simp))
              ·replace c52 := Bool.eq_false_iff.mpr c52
               subst c52
               have H1 : (some false) = some true := by rw [if_neg (show ¬ (false = true) by decide)] at H; exact H
               clear H
               have H := H1
               clear H1
               exact absurd H (by first | (simp; done) | ((repeat' split) <;> simp))
             ·replace c51 := Bool.eq_false_iff.mpr c51
              subst c51
              have H1 : (some false) = some true := by rw [if_neg (show ¬ (false = true) by decide)] at H; exact H
              clear H
              have H := H1
              clear H1
              exact absurd H (by first | (simp; done) | ((repeat' split) <;> simp))
            ·rw [if_neg c48] at H
             exact absurd H (by simp)
           ·replace c47 := Bool.eq_false_iff.mpr c47
            subst c47
            have H1 : (laws_FnHandles.j2 kj20 l0 x5_1 x6_1 x7_1 t246 t249) = some true := by rw [if_neg (show ¬ (false = true) by decide)] at H; exact H
            clear H
            have H := H1
            clear H1
            have H' := Aside0.mk H
            clear H
            have hnb67 := NB254_238.out
            have hnc67 := NB238_254.out
            have hcz68_0 : wc.cell? ⟨gb254, 0, none⟩ = some (.slice Ao27 t246.length co27) := (blk_cell BK254.out 0).trans rfl
            have hcz68_1 : wc.cell? ⟨gb254, 1, none⟩ = some (.slice Ao30 t249.length co30) := (blk_cell BK254.out 1).trans rfl
            have hfz68_0 := blk_frozen BK254.out 0
            have hfz68_1 := blk_frozen BK254.out 1
            have hcz69_0 : wc.cell? ⟨gb238, 0, none⟩ = some (.slice Ao23 x239000_1.length co23) := (blk_cell BK238.out 0).trans rfl
            have hcz69_1 : wc.cell? ⟨gb238, 1, none⟩ = some (.slice Ao24 x239001_1.length co24) := (blk_cell BK238.out 1).trans rfl
            have hfz69_0 := blk_frozen BK238.out 0
            have hfz69_1 := blk_frozen BK238.out 1
            go_wp2
            go_meet
            case rel => exact ⟨_, (x5_1), (x6_1), (t246), (t249), (.slice Ao27 t246.length co27), (.slice Ao30 t249.length co30), H', ⟨by have := HK1.out; have := HJ20.out; first | omega | exact Nat.le_refl _⟩, ⟨by (with_reducible repeat (first | apply Kd.R_alloc | apply Kd.R_drewN | apply Kd.R_drew)); exact Kd.R_mono (Kd.R_far (Kd.R_far (Kd.R_types HO_5.out BK238.out (by decide)) (fun _ hk => hk.2) _) (fun _ hk => hk.2) _) (fun _ hk => ⟨hk.1.1, hk.1.2.2⟩)⟩, ⟨by (with_reducible repeat (first | apply Kd.R_alloc | apply Kd.R_drewN | apply Kd.R_drew)); exact Kd.R_mono (Kd.R_far (Kd.R_far (Kd.R_types HO_6.out BK238.out (by decide)) (fun _ hk => hk.2) _) (fun _ hk => hk.2) _) (fun _ hk => ⟨hk.1.1, hk.1.2.2⟩)⟩, ⟨by (with_reducible repeat (first | apply Kd.R_alloc | apply Kd.R_drewN | apply Kd.R_drew)); exact Kd.R_mono (Kd.R_far (Kd.R_far (Kd.R_types HO_255000.out BK238.out (by decide)) (fun _ hk => hk.2) _) (fun _ hk => hk.2) _) (fun _ hk => trivial)⟩, ⟨by (with_reducible repeat (first | apply Kd.Q_alloc | apply Kd.Q_drewN | apply Kd.Q_drew)); exact Kd.Q_mono (Kd.Q_far (Kd.Q_far (Kd.Q_types HO_255001.out BK238.out (by decide)) (fun _ hk => hk.2) _) (fun _ hk => hk.2) _) (fun _ hk => ⟨hk.1.1, hk.1.2.1⟩)⟩, ⟨by (with_reducible repeat (first | refine blk_drewN ?_ _ | refine blk_drew ?_ | refine blk_alloc ?_ _)); refine blk_put (cs := #[.slice Ao27 t246.length co27, .slice Ao24 x239001_1.length co24]) ?_ 1 _ rfl; (with_reducible repeat (first | refine blk_drewN ?_ _ | refine blk_drew ?_ | refine blk_alloc ?_ _)); refine blk_put (cs := #[.slice Ao23 x239000_1.length co23, .slice Ao24 x239001_1.length co24]) ?_ 0 _ rfl; (with_reducible repeat (first | refine blk_drewN ?_ _ | refine blk_drew ?_ | refine blk_alloc ?_ _)); exact BK238.out⟩, ⟨by repeat (first | (with_reducible first | exact HB.out | apply below_alloc | apply pw_below_drewN | apply below_drew1 | refine below_set ?_ GE238.out | refine below_set ?_ GE254.out) | exact HB.out)⟩⟩
       ·rw [if_neg c19] at H
        have c19b0 : ((Int.tmod t245 2) == 0) = false := beq_eq_false_iff_ne.mpr c19
        have c19b1 : ((Int.tmod t245 2) != 0) = true := bne_iff_ne.mpr c19
        (first | rw [c19b0] | (simp only [i64_w, i32_w]; rw [c19b0]) | skip)
        by_cases c70 : (x5_1.length : Int) > 0
        ·rw [if_pos c70] at H
         have c70b0 : decide (0 < (x5_1.length : Int)) = true := decide_eq_true c70
         have c70b1 : decide (0 < x5_1.length) = true := decide_eq_true (by omega)
         clear c70
         replace H := Option.bind_eq_some_iff.mp H
         obtain ⟨t271, A710, H⟩ := H
         replace H : (if (x5_1.length : Int) = 0 then (none) else (if 0 ≤ (Int.tmod t271 (x5_1.length : Int)) then (if (Int.tmod t271 (x5_1.length : Int)) < (x5_1.length : Int) then ((impl_Give.f k1 x239000_1 x239001_1 (rd x5_1 (Int.tmod t271 (x5_1.length : Int)))).bind fun bt273 => (if bt273.2.2 = true then (if x6_1.length < 17592186044416 then ((some (([] : List Int) : List Int)).bind fun y285 => (if (Int.tmod t271 (x5_1.length : Int)) ≤ (x5_1.length : Int) then ((some (x5_1.take ((Int.tmod t271 (x5_1.length : Int)) : Int).toNat : List Int)).bind fun y288 => (if y285.length + y288.length < 17592186044416 then ((some (y285 ++ y288 : List Int)).bind fun y292 => (if 0 ≤ (wrap64 ((Int.tmod t271 (x5_1.length : Int)) + 1)) then (if (wrap64 ((Int.tmod t271 (x5_1.length : Int)) + 1)) ≤ (x5_1.length : Int) then ((some (x5_1.drop ((wrap64 ((Int.tmod t271 (x5_1.length : Int)) + 1)) : Int).toNat : List Int)).bind fun y295 => (if y292.length + y295.length < 17592186044416 then (laws_FnHandles.j2 k1 l0 (y292 ++ y295) (x6_1 ++ [rd x5_1 (Int.tmod t271 (x5_1.length : Int))]) x7_1 bt273.1 bt273.2.1) else (none))) else (none)) else (none))) else (none))) else (none))) else (none)) else (some false))) else (none)) else (none))) = some true := H
         have A71 := Aside0.mk A710
         clear A710
         by_cases c72 : (x5_1.length : Int) = 0
         ·rw [if_pos c72] at H
          exact absurd H (by simp)
         ·rw [if_neg c72] at H
          have c72b0 : ((x5_1.length : Int) == 0) = false := beq_eq_false_iff_ne.mpr c72
          have c72b1 : ((x5_1.length : Int) != 0) = true := bne_iff_ne.mpr c72
          have c72b2 : ¬ (x5_1 = []) := fun h_ => c72 (by rw [h_]; rfl)
          obtain ⟨ji73, hji73⟩ : ∃ j_ : Int, (Int.tmod t271 (x5_1.length : Int)) = j_ := ⟨_, rfl⟩
          replace H : (if 0 ≤ (ji73) then (if (ji73) < (x5_1.length : Int) then ((impl_Give.f k1 x239000_1 x239001_1 (rd x5_1 (ji73))).bind fun bt273 => (if bt273.2.2 = true then (if x6_1.length < 17592186044416 then ((some (([] : List Int) : List Int)).bind fun y285 => (if (ji73) ≤ (x5_1.length : Int) then ((some (x5_1.take ((ji73) : Int).toNat : List Int)).bind fun y288 => (if y285.length + y288.length < 17592186044416 then ((some (y285 ++ y288 : List Int)).bind fun y292 => (if 0 ≤ (wrap64 ((ji73) + 1)) then (if (wrap64 ((ji73) + 1)) ≤ (x5_1.length : Int) then ((some (x5_1.drop ((wrap64 ((ji73) + 1)) : Int).toNat : List Int)).bind fun y295 => (if y292.length + y295.length < 17592186044416 then (laws_FnHandles.j2 k1 l0 (y292 ++ y295) (x6_1 ++ [rd x5_1 (ji73)]) x7_1 bt273.1 bt273.2.1) else (none))) else (none)) else (none))) else (none))) else (none))) else (none)) else (some false))) else (none)) else (none)) = some true := by first | (rw [hji73] at H; exact H) | (simp only [hji73] at H ⊢; exact H)
          (try rw [hji73] at A71)
          by_cases c74 : 0 ≤ (ji73)
          ·rw [if_pos c74] at H
           have c74b0 : decide (0 ≤ (ji73)) = true := decide_eq_true c74
           clear c74
           by_cases c75 : (ji73) < (x5_1.length : Int)
           ·rw [if_pos c75] at H
            have c75b0 : decide ((ji73) < (x5_1.length : Int)) = true := decide_eq_true c75
            clear c75
            replace H := Option.bind_eq_some_iff.mp H
            obtain ⟨⟨t273, t276, t279⟩, A760, H⟩ := H
            replace H : (if t279 = true then (if x6_1.length < 17592186044416 then ((some (([] : List Int) : List Int)).bind fun y285 => (if (ji73) ≤ (x5_1.length : Int) then ((some (x5_1.take ((ji73) : Int).toNat : List Int)).bind fun y288 => (if y285.length + y288.length < 17592186044416 then ((some (y285 ++ y288 : List Int)).bind fun y292 => (if 0 ≤ (wrap64 ((ji73) + 1)) then (if (wrap64 ((ji73) + 1)) ≤ (x5_1.length : Int) then ((some (x5_1.drop ((wrap64 ((ji73) + 1)) : Int).toNat : List Int)).bind fun y295 => (if y292.length + y295.length < 17592186044416 then (laws_FnHandles.j2 k1 l0 (y292 ++ y295) (x6_1 ++ [rd x5_1 (ji73)]) x7_1 t273 t276) else (none))) else (none)) else (none))) else (none))) else (none))) else (none)) else (some false)) = some true := H
            have A76 := Aside0.mk A760
            clear A760
            by_cases c77 : t279 = true
            ·subst c77
             have H1 : (if x6_1.length < 17592186044416 then ((some (([] : List Int) : List Int)).bind fun y285 => (if (ji73) ≤ (x5_1.length : Int) then ((some (x5_1.take ((ji73) : Int).toNat : List Int)).bind fun y288 => (if y285.length + y288.length < 17592186044416 then ((some (y285 ++ y288 : List Int)).bind fun y292 => (if 0 ≤ (wrap64 ((ji73) + 1)) then (if (wrap64 ((ji73) + 1)) ≤ (x5_1.length : Int) then ((some (x5_1.drop ((wrap64 ((ji73) + 1)) : Int).toNat : List Int)).bind fun y295 => (if y292.length + y295.length < 17592186044416 then (laws_FnHandles.j2 k1 l0 (y292 ++ y295) (x6_1 ++ [rd x5_1 (ji73)]) x7_1 t273 t276) else (none))) else (none)) else (none))) else (none))) else (none))) else (none)) = some true := by rw [if_pos rfl] at H; exact H
             clear H
             have H := H1
             clear H1
             by_cases c78 : x6_1.length < 17592186044416
             ·rw [if_pos c78] at H
              have LMc78 := Aside0.mk c78
              clear c78
              obtain ⟨y282, hy282⟩ : ∃ y_ : List Int, y_ = (x6_1 ++ [rd x5_1 (ji73)]) := ⟨_, rfl⟩
              replace H : ((some (([] : List Int) : List Int)).bind fun y285 => (if (ji73) ≤ (x5_1.length : Int) then ((some (x5_1.take ((ji73) : Int).toNat : List Int)).bind fun y288 => (if y285.length + y288.length < 17592186044416 then ((some (y285 ++ y288 : List Int)).bind fun y292 => (if 0 ≤ (wrap64 ((ji73) + 1)) then (if (wrap64 ((ji73) + 1)) ≤ (x5_1.length : Int) then ((some (x5_1.drop ((wrap64 ((ji73) + 1)) : Int).toNat : List Int)).bind fun y295 => (if y292.length + y295.length < 17592186044416 then (laws_FnHandles.j2 k1 l0 (y292 ++ y295) y282 x7_1 t273 t276) else (none))) else (none)) else (none))) else (none))) else (none))) = some true := by first | (rw [hy282]; with_reducible exact H) | (have H2_ := (Option.bind_some _ _).symm.trans H; rw [hy282]; with_reducible exact H2_) | (have H2_ := (Option.bind_some _ _).symm.trans H; with_reducible exact H2_) | with_reducible exact H | (rw [hy282]; exact H) | exact H
              have Ny282 := Aside0.mk hy282
              clear hy282
              obtain ⟨y285, hy285⟩ : ∃ y_ : List Int, y_ = (([] : List Int)) := ⟨_, rfl⟩
              replace H : (if (ji73) ≤ (x5_1.length : Int) then ((some (x5_1.take ((ji73) : Int).toNat : List Int)).bind fun y288 => (if y285.length + y288.length < 17592186044416 then ((some (y285 ++ y288 : List Int)).bind fun y292 => (if 0 ≤ (wrap64 ((ji73) + 1)) then (if (wrap64 ((ji73) + 1)) ≤ (x5_1.length : Int) then ((some (x5_1.drop ((wrap64 ((ji73) + 1)) : Int).toNat : List Int)).bind fun y295 => (if y292.length + y295.length < 17592186044416 then (laws_FnHandles.j2 k1 l0 (y292 ++ y295) y282 x7_1 t273 t276) else (none))) else (none)) else (none))) else (none))) else (none)) = some true := by first | (rw [hy285]; with_reducible exact H) | (have H2_ := (Option.bind_some _ _).symm.trans H; rw [hy285]; with_reducible exact H2_) | (have H2_ := (Option.bind_some _ _).symm.trans H; with_reducible exact H2_) | with_reducible exact H | (rw [hy285]; exact H) | exact H
              have Ny285 := Aside0.mk hy285
              clear hy285
              have c79b0 := eq_true (of_decide_eq_true (by first | (with_reducible assumption) | assumption) : 0 ≤ (ji73))
              by_cases c80 : (ji73) ≤ (x5_1.length : Int)
              ·rw [if_pos c80] at H
               have c80b0 := eq_true c80
               have c80b1 : decide ((ji73) ≤ (x5_1.length : Int)) = true := decide_eq_true c80
               clear c80
               obtain ⟨y288, hy288⟩ : ∃ y_ : List Int, y_ = (x5_1.take ((ji73) : Int).toNat) := ⟨_, rfl⟩
               replace H : (if y285.length + y288.length < 17592186044416 then ((some (y285 ++ y288 : List Int)).bind fun y292 => (if 0 ≤ (wrap64 ((ji73) + 1)) then (if (wrap64 ((ji73) + 1)) ≤ (x5_1.length : Int) then ((some (x5_1.drop ((wrap64 ((ji73) + 1)) : Int).toNat : List Int)).bind fun y295 => (if y292.length + y295.length < 17592186044416 then (laws_FnHandles.j2 k1 l0 (y292 ++ y295) y282 x7_1 t273 t276) else (none))) else (none)) else (none))) else (none)) = some true := by first | (rw [hy288]; with_reducible exact H) | (have H2_ := (Option.bind_some _ _).symm.trans H; rw [hy288]; with_reducible exact H2_) | (have H2_ := (Option.bind_some _ _).symm.trans H; with_reducible exact H2_) | with_reducible exact H | (rw [hy288]; exact H) | exact H
               have Ny288 := Aside0.mk hy288
               clear hy288
               by_cases c81 : y285.length + y288.length < 17592186044416
               ·rw [if_pos c81] at H
                have LMc81 := Aside0.mk c81
                clear c81
                obtain ⟨y292, hy292⟩ : ∃ y_ : List Int, y_ = (y285 ++ y288) := ⟨_, rfl⟩
                replace H : (if 0 ≤ (wrap64 ((ji73) + 1)) then (if (wrap64 ((ji73) + 1)) ≤ (x5_1.length : Int) then ((some (x5_1.drop ((wrap64 ((ji73) + 1)) : Int).toNat : List Int)).bind fun y295 => (if y292.length + y295.length < 17592186044416 then (laws_FnHandles.j2 k1 l0 (y292 ++ y295) y282 x7_1 t273 t276) else (none))) else (none)) else (none)) = some true := by first | (rw [hy292]; with_reducible exact H) | (have H2_ := (Option.bind_some _ _).symm.trans H; rw [hy292]; with_reducible exact H2_) | (have H2_ := (Option.bind_some _ _).symm.trans H; with_reducible exact H2_) | with_reducible exact H | (rw [hy292]; exact H) | exact H
                have Ny292 := Aside0.mk hy292
                clear hy292
                obtain ⟨ji82, hji82⟩ : ∃ j_ : Int, (wrap64 ((ji73) + 1)) = j_ := ⟨_, rfl⟩
                replace H : (if 0 ≤ (ji82) then (if (ji82) ≤ (x5_1.length : Int) then ((some (x5_1.drop ((ji82) : Int).toNat : List Int)).bind fun y295 => (if y292.length + y295.length < 17592186044416 then (laws_FnHandles.j2 k1 l0 (y292 ++ y295) y282 x7_1 t273 t276) else (none))) else (none)) else (none)) = some true := by first | (rw [hji82] at H; exact H) | (simp only [hji82] at H ⊢; exact H)
                (try rw [hji82] at A71)
                (try rw [hji82] at A76)
                have hji82w : (IntKind.i64.wrap ((ji73) + 1)) = ji82 := (i64_w _).trans hji82
                by_cases c83 : 0 ≤ (ji82)
                ·rw [if_pos c83] at H
                 have c83b0 := eq_true c83
                 have c83b1 : decide (0 ≤ (ji82)) = true := decide_eq_true c83
                 clear c83
                 by_cases c84 : (ji82) ≤ (x5_1.length : Int)
                 ·rw [if_pos c84] at H
                  have c84b0 := eq_true c84
                  have c84b1 : decide ((ji82) ≤ (x5_1.length : Int)) = true := decide_eq_true c84
                  clear c84
                  obtain ⟨y295, hy295⟩ : ∃ y_ : List Int, y_ = (x5_1.drop ((ji82) : Int).toNat) := ⟨_, rfl⟩
                  replace H : (if y292.length + y295.length < 17592186044416 then (laws_FnHandles.j2 k1 l0 (y292 ++ y295) y282 x7_1 t273 t276) else (none)) = some true := by first | (rw [hy295]; with_reducible exact H) | (have H2_ := (Option.bind_some _ _).symm.trans H; rw [hy295]; with_reducible exact H2_) | (have H2_ := (Option.bind_some _ _).symm.trans H; with_reducible exact H2_) | with_reducible exact H | (rw [hy295]; exact H) | exact H
                  have Ny295 := Aside0.mk hy295
                  clear hy295
                  by_cases c85 : y292.length + y295.length < 17592186044416
                  ·rw [if_pos c85] at H
                   have LMc85 := Aside0.mk c85
                   clear c85
                   obtain ⟨y299, hy299⟩ : ∃ y_ : List Int, y_ = (y292 ++ y295) := ⟨_, rfl⟩
                   replace H : (laws_FnHandles.j2 k1 l0 y299 y282 x7_1 t273 t276) = some true := by first | (rw [hy299]; with_reducible exact H) | (have H2_ := (Option.bind_some _ _).symm.trans H; rw [hy299]; with_reducible exact H2_) | (have H2_ := (Option.bind_some _ _).symm.trans H; with_reducible exact H2_) | with_reducible exact H | (rw [hy299]; exact H) | exact H
                   have Ny299 := Aside0.mk hy299
                   clear hy299
                   have H' := Aside0.mk H
                   clear H
                   obtain ⟨Ao86, co86, eo86⟩ := Kd.R_slice HO_5.out
                   subst eo86
                   try go_wp2_with (first | ((with_reducible refine gate_callee (f := 9) rfl ?_); refine goesL_ (some 114) rfl rfl Tryd.func9 (by kernel_rfl) rfl #[.slice A0 l0.length c0, .int .i64 (wrap64 (x7_1 + 40))] rfl (by (try simp only [List.map_toArray, List.map_cons, List.map_nil]); first | done | rfl | (simp only [List.length_drop, List.length_take]; rfl)) ?_; (with_reducible refine (laws_at.calls _ _ l0 (wrap64 (x7_1 + 40)) t271 _ ?side1 ?side2 A71.out).mono ?_); (case side1 => repeat (first | exact (Kd.C_below HR0.out HB.out) | (with_reducible refine Kd.C_alloc ?_ _) | (with_reducible refine Kd.C_drewN ?_ _) | (with_reducible refine Kd.C_drew ?_))); (case side2 => exact HC0.out); rintro e w' ⟨rfl, ⟨nd, rfl⟩⟩; refine ⟨_, rfl, ?_⟩; (try (rw [drewN_self wr]; generalize hq_ : World.drewN wr _ = wr; have n0_ : Aside0 (Kd.R k46 46 wr w.heap.size (fun _ => True) u239000 x239000_1) := ⟨by rw [← hq_]; exact (by (with_reducible repeat (first | apply Kd.R_alloc | apply Kd.R_drewN | apply Kd.R_drew)); exact HO_239000.out)⟩; have n1_ : Aside0 (Kd.Q (Kd.int .i64) 3 wr w.heap.size (fun k_ => some k_ ≠ (.slice Ao86 x5_1.length co86 : Value).ownBlock ∧ some k_ ≠ (u6 : Value).ownBlock) u239001 x239001_1) := ⟨by rw [← hq_]; exact (by (with_reducible repeat (first | apply Kd.Q_alloc | apply Kd.Q_drewN | apply Kd.Q_drew)); exact HO_239001.out)⟩; have n2_ : Aside0 (Kd.R (Kd.int .i64) 3 wr w.heap.size (fun k_ => some k_ ≠ (u239001 : Value).ownBlock ∧ some k_ ≠ (u6 : Value).ownBlock) (.slice Ao86 x5_1.length co86) x5_1) := ⟨by rw [← hq_]; exact (by (with_reducible repeat (first | apply Kd.R_alloc | apply Kd.R_drewN | apply Kd.R_drew)); exact Kd.R_mono HO_5.out (fun _ hk => ⟨hk.2, hk.1⟩))⟩; have n3_ : Aside0 (Kd.R (Kd.int .i64) 3 wr w.heap.size (fun k_ => some k_ ≠ (u239001 : Value).ownBlock ∧ some k_ ≠ (.slice Ao86 x5_1.length co86 : Value).ownBlock) u6 x6_1) := ⟨by rw [← hq_]; exact (by (with_reducible repeat (first | apply Kd.R_alloc | apply Kd.R_drewN | apply Kd.R_drew)); exact Kd.R_mono HO_6.out (fun _ hk => ⟨hk.2, hk.1⟩))⟩; have n4_ : Aside0 (wr.heap[gb238]? = some (.cells #[u239000, u239001] 29 (0, 0))) := ⟨by rw [← hq_]; exact (by (with_reducible repeat (first | refine blk_drewN ?_ _ | refine blk_drew ?_ | refine blk_alloc ?_ _)); exact BK238.out)⟩; have n5_ : Aside0 (Below w.heap.size w wr) := ⟨by rw [← hq_]; exact (by repeat (first | (with_reducible first | exact HB.out | apply below_alloc | apply pw_below_drewN | apply below_drew1 | refine below_set ?_ GE238.out) | exact HB.out))⟩; clear HO_239000 HO_239001 HO_5 HO_6 BK238 HB hq_; have HO_239000 := n0_; have HO_239001 := n1_; have HO_5 := n2_; have HO_6 := n3_; have BK238 := n4_; have HB := n5_; clear n0_ n1_ n2_ n3_ n4_ n5_)); obtain ⟨Ao87, co87, eo87⟩ := Kd.R_slice HO_239000.out; subst eo87; obtain ⟨Ao88, co88, eo88, _⟩ := Kd.Q_slice HO_239001.out; subst eo88))
                   have n0_ := Aside0.mk (Kd.R_drew (Kd.R_drewN HO_5.out nd))
                   have n1_ := Aside0.mk (Kd.R_drew (Kd.R_drewN HO_6.out nd))
                   have n2_ := Aside0.mk (Kd.R_drew (Kd.R_drewN HO_239000.out nd))
                   have n3_ := Aside0.mk (Kd.Q_drew (Kd.Q_drewN HO_239001.out nd))
                   have n4_ := Aside0.mk (blk_drew (blk_drewN BK238.out nd))
                   have n5_ := Aside0.mk (below_drew1 (pw_below_drewN HB.out nd))
                   clear HO_5
                   clear HO_6
                   clear HO_239000
                   clear HO_239001
                   clear BK238
                   clear HB
                   have HO_5 := n0_
                   have HO_6 := n1_
                   have HO_239000 := n2_
                   have HO_239001 := n3_
                   have BK238 := n4_
                   have HB := n5_
                   clear n0_ n1_ n2_ n3_ n4_ n5_
                   have p272 : 0 ≤ ((ji73) : Int) := of_decide_eq_true (by first | (with_reducible assumption) | assumption)
                   have q272 : (ji73) < (x5_1.length : Int) := of_decide_eq_true (by first | (with_reducible assumption) | assumption)
                   obtain ⟨ad272, e272, hx272_0⟩ := Kd.at_int (Kd.R_reads' HO_5.out).2.2 (ji73) p272 q272
                   cases e272
                   replace p272 := eq_true p272
                   replace q272 := eq_true q272
                   refine start_ (n := 12) (S := fun w' => w'.cell? ⟨gb238, 0, none⟩ = some (.slice Ao87 x239000_1.length co87) ∧ w'.cell? ⟨gb238, 1, none⟩ = some (.slice Ao88 x239001_1.length co88) ∧ w'.cell? (ad272.add ((ji73)).toNat) = some (.int .i64 (rd x5_1 (ji73)))) (ds := []) #[false, false, false, false, false, false, false, false, false, false, false, false] (by kernel_rfl) rfl rfl ⟨(blk_cell BK238.out 0).trans rfl, (blk_cell BK238.out 1).trans rfl, hx272_0⟩ (fun hHeld => ?_); refine with_tabW laws_FnHandles.tab23 laws_FnHandles.bits23 (fun HT_ HW_ => ?_)
                   generalize (wr.drewN nd).drew = w89 at HO_5 HO_6 HO_239000 HO_239001 BK238 HB hx272_0 hHeld ⊢
                   refine pure_ (i := 1) (N := some 120) (v := ?_) (a' := ?_) #[false, true, false, false, false, false, false, false, false, false, false, false] rfl rfl (any_of HT_.out (by kernel_rfl)) (fun _ _ _ h => h) (Or.inl ⟨by rfl, ?_⟩) ?_ ?_
                   rotate_left
                   ·intro w'
                    go_simp
                    with_reducible rfl
                   rotate_left
                   ·simp only [Act.put, List.setIfInBounds_toArray, List.set_cons_zero, List.set_cons_succ, i64_w, i32_w]
                    rfl
                   refine pure_ (i := 2) (N := some 121) (v := ?_) (a' := ?_) #[false, true, true, false, false, false, false, false, false, false, false, false] rfl rfl (any_of HT_.out (by kernel_rfl)) (fun _ _ _ h => h) (Or.inl ⟨by rfl, ?_⟩) ?_ ?_
                   rotate_left
                   ·intro w'
                    go_simp
                    with_reducible rfl
                   rotate_left
                   ·simp only [Act.put, List.setIfInBounds_toArray, List.set_cons_zero, List.set_cons_succ, i64_w, i32_w]
                    rfl
                   refine pure_ (i := 3) (N := some 122) (v := ?_) (a' := ?_) #[false, true, true, true, false, false, false, false, false, false, false, false] rfl rfl (any_of HT_.out (by kernel_rfl)) (fun _ _ _ h => h) (Or.inl ⟨by rfl, ?_⟩) ?_ ?_
                   rotate_left
                   ·intro w'
                    go_simp
                    with_reducible rfl
                   rotate_left
                   ·simp only [Act.put, List.setIfInBounds_toArray, List.set_cons_zero, List.set_cons_succ, i64_w, i32_w]
                    rfl
                   refine take_ (i := 0) (N := some 119) (v := ?_) (a' := ?_) #[true, true, true, true, false, false, false, false, false, false, false, false] rfl rfl (take_ofW HT_.out HW_.out (by kernel_rfl)) (fun _ _ _ h => h) (Or.inl ⟨by rfl, ?_⟩) hHeld ?_ ?_
                   rotate_left
                   ·rintro w' ⟨s0, s1, s2⟩
                    go_simp
                    with_reducible rfl
                   rotate_left
                   ·simp only [Act.put, List.setIfInBounds_toArray, List.set_cons_zero, List.set_cons_succ, i64_w, i32_w]
                    rfl
                   refine take_ (i := 4) (N := some 123) (v := ?_) (a' := ?_) #[true, true, true, true, true, false, false, false, false, false, false, false] rfl rfl (take_ofW HT_.out HW_.out (by kernel_rfl)) (fun _ _ _ h => h) (Or.inl ⟨by rfl, ?_⟩) hHeld ?_ ?_
                   rotate_left
                   ·rintro w' ⟨s0, s1, s2⟩
                    go_simp
                    with_reducible rfl
                   rotate_left
                   ·simp only [Act.put, List.setIfInBounds_toArray, List.set_cons_zero, List.set_cons_succ, i64_w, i32_w]
                    rfl
                   refine join_ (σ := Value × Value × Nat) 2 #[true, true, true, true, true, true, true, true, true, true, false, false] (fun s_ => [(124, .tuple #[.agg #[s_.1, s_.2.1], .bool true]), (16, .pointer (some ⟨s_.2.2, 0, none⟩)), (118, .tuple #[.agg #[s_.1, s_.2.1], .bool true]), (125, .agg #[s_.1, s_.2.1]), (126, .bool true)]) (fun s_ w' => (w'.cell? ⟨gb238, 0, none⟩ = some (.slice Ao87 x239000_1.length co87) ∧ w'.cell? ⟨gb238, 1, none⟩ = some (.slice Ao88 x239001_1.length co88) ∧ w'.cell? (ad272.add ((ji73)).toNat) = some (.int .i64 (rd x5_1 (ji73)))) ∧ (Kd.R k46 46 w' w.heap.size (fun k_ => some k_ ≠ (.slice Ao87 x239000_1.length co87 : Value).ownBlock) s_.1 t273) ∧ (Kd.R (Kd.int .i64) 3 w' w.heap.size (fun k_ => some k_ ≠ (.slice Ao88 x239001_1.length co88 : Value).ownBlock ∧ some k_ ≠ (.slice (some ad272) x5_1.length co86 : Value).ownBlock ∧ some k_ ≠ (u6 : Value).ownBlock) s_.2.1 t276) ∧ (Kd.R k46 46 w' w.heap.size (fun k_ => some k_ ≠ (s_.1 : Value).ownBlock) (.slice Ao87 x239000_1.length co87) x239000_1) ∧ (Kd.Q (Kd.int .i64) 3 w' w.heap.size (fun k_ => some k_ ≠ (s_.2.1 : Value).ownBlock ∧ some k_ ≠ (.slice (some ad272) x5_1.length co86 : Value).ownBlock ∧ some k_ ≠ (u6 : Value).ownBlock) (.slice Ao88 x239001_1.length co88) x239001_1) ∧ (Kd.R (Kd.int .i64) 3 w' w.heap.size (fun k_ => some k_ ≠ (s_.2.1 : Value).ownBlock ∧ some k_ ≠ (.slice Ao88 x239001_1.length co88 : Value).ownBlock ∧ some k_ ≠ (u6 : Value).ownBlock) (.slice (some ad272) x5_1.length co86) x5_1) ∧ (Kd.R (Kd.int .i64) 3 w' w.heap.size (fun k_ => some k_ ≠ (s_.2.1 : Value).ownBlock ∧ some k_ ≠ (.slice Ao88 x239001_1.length co88 : Value).ownBlock ∧ some k_ ≠ (.slice (some ad272) x5_1.length co86 : Value).ownBlock) u6 x6_1) ∧ (w'.heap[gb238]? = some (.cells #[.slice Ao87 x239000_1.length co87, .slice Ao88 x239001_1.length co88] 29 (0, 0))) ∧ (w'.heap[s_.2.2]? = some (.cells #[.slice none 0 0, .slice none 0 0] 29 (0, 0))) ∧ (w.heap.size ≤ s_.2.2) ∧ (w.heap.size ≤ s_.2.2) ∧ (gb238 ≠ s_.2.2) ∧ (s_.2.2 ≠ gb238) ∧ (Below w.heap.size w w')) ?_ ?_
                   rotate_left
                   ·intro hCont
                    refine two_ (i := 5) (j := 9) (Ni := some 124) (Nj := some 16) #[true, true, true, true, true, true, false, false, false, false, false, false] #[true, true, true, true, true, false, false, false, false, true, false, false] rfl rfl rfl rfl (two_of HT_.out (by kernel_rfl)) (by decide) (by decide) (fun K hK => ?_) (fun K hK => ?_)
                    ·skip
                     refine goes_ Tryd.func15 (by kernel_rfl) rfl #[.agg #[.slice Ao87 x239000_1.length co87, .slice Ao88 x239001_1.length co88], .int .i64 (rd x5_1 (ji73))] (by rfl) rfl rfl (by (try simp only [List.map_toArray, List.map_cons, List.map_nil]); first | done | (simp only [hji73]; rfl) | rfl | (simp only [List.length_drop, List.length_take]; rfl)) ?_
                     with_reducible refine (impl_Give.calls k1 _ _ x239000_1 _ _ x239001_1 (rd x5_1 (ji73)) t273 t276 true _ ?side1 ?side2 ?side3 ?side4 A76.out).mono ?_
                     (case side1 => repeat (first | exact (Kd.R_reads' HO_239000.out).2.2 | (with_reducible refine Kd.C_alloc ?_ _) | (with_reducible refine Kd.C_drewN ?_ _) | (with_reducible refine Kd.C_drew ?_)))
                     (case side2 => exact (Kd.R_reads' HO_239000.out).2.1)
                     (case side3 => repeat (first | exact (Kd.Q_reads' HO_239001.out).2.2 | (with_reducible refine Kd.C_alloc ?_ _) | (with_reducible refine Kd.C_drewN ?_ _) | (with_reducible refine Kd.C_drew ?_)))
                     (case side4 => exact (Kd.Q_reads' HO_239001.out).2.1)
                     rintro e w90 ⟨v274, v277, rfl, ho0, ho1, hb⟩
                     have HS2_ := (hb.cell (World.block_lt_of_cell? _ _ (hHeld.2.2))).trans (hHeld.2.2)
                     refine ⟨_, rfl, ?_⟩
                     have n0_ := Aside0.mk (Kd.R_elder' (by (with_reducible repeat (first | apply Kd.R_alloc | apply Kd.R_drewN | apply Kd.R_drew)); exact HO_5.out) (Kd.R_base ho1) hb)
                     have n1_ := Aside0.mk (Kd.R_elder' (by (with_reducible repeat (first | apply Kd.R_alloc | apply Kd.R_drewN | apply Kd.R_drew)); exact HO_6.out) (Kd.R_base ho1) hb)
                     have n2_ := Aside0.mk (Kd.R_elder' (by (with_reducible repeat (first | apply Kd.R_alloc | apply Kd.R_drewN | apply Kd.R_drew)); exact HO_239000.out) (Kd.R_base ho0) hb)
                     have n3_ := Aside0.mk (Kd.Q_elder' (by (with_reducible repeat (first | apply Kd.Q_alloc | apply Kd.Q_drewN | apply Kd.Q_drew)); exact HO_239001.out) (Kd.R_base ho1) hb)
                     have n4_ := Aside0.mk (Kd.R_lower (Kd.R_new' ho0 (Kd.R_lt (by (with_reducible repeat (first | apply Kd.R_alloc | apply Kd.R_drewN | apply Kd.R_drew)); exact HO_239000.out))) (below_size (by repeat (first | (with_reducible first | exact HB.out | apply below_alloc | apply pw_below_drewN | apply below_drew1 | refine below_set ?_ GE238.out) | exact HB.out))))
                     have n5_ := Aside0.mk (Kd.R_lower (Kd.R_new' (Kd.R_new' (Kd.R_new' ho1 (Kd.R_lt (by (with_reducible repeat (first | apply Kd.R_alloc | apply Kd.R_drewN | apply Kd.R_drew)); exact HO_5.out))) (Kd.R_lt (by (with_reducible repeat (first | apply Kd.R_alloc | apply Kd.R_drewN | apply Kd.R_drew)); exact HO_6.out))) (Kd.Q_lt (by (with_reducible repeat (first | apply Kd.Q_alloc | apply Kd.Q_drewN | apply Kd.Q_drew)); exact HO_239001.out))) (below_size (by repeat (first | (with_reducible first | exact HB.out | apply below_alloc | apply pw_below_drewN | apply below_drew1 | refine below_set ?_ GE238.out) | exact HB.out))))
                     have n6_ := Aside0.mk (blk_below (g := gb238) (o := .cells #[.slice Ao87 x239000_1.length co87, .slice Ao88 x239001_1.length co88] 29 (0, 0)) (by (with_reducible repeat (first | refine blk_drewN ?_ _ | refine blk_drew ?_ | refine blk_alloc ?_ _)); exact BK238.out) hb)
                     have n7_ := Aside0.mk (below_step (by repeat (first | (with_reducible first | exact HB.out | apply below_alloc | apply pw_below_drewN | apply below_drew1 | refine below_set ?_ GE238.out) | exact HB.out)) hb)
                     clear HO_5
                     clear HO_6
                     clear HO_239000
                     clear HO_239001
                     clear BK238
                     clear HB
                     have HO_5 := n0_
                     have HO_6 := n1_
                     have HO_239000 := n2_
                     have HO_239001 := n3_
                     have HO275 := n4_
                     have HO278 := n5_
                     have BK238 := n6_
                     have HB := n7_
                     clear n0_ n1_ n2_ n3_ n4_ n5_ n6_ n7_
                     (try clear hb)
                     (try clear hb2)
                     (try clear hk)
                     (try clear hi)
                     (try clear ho0)
                     (try clear ho1)
                     refine hK.out _ _ ⟨(blk_cell BK238.out 0).trans rfl, (blk_cell BK238.out 1).trans rfl, HS2_⟩ (fun hHeld => ?_)
                     clear hK K
                     refine norm_ (a' := ?_) ?_ ?_
                     rotate_left
                     ·show Act.put _ (some 124) _ = _
                      simp only [Act.put, List.setIfInBounds_toArray, List.set_cons_zero, List.set_cons_succ, i64_w, i32_w]
                      rfl
                     refine pure_ (i := 6) (N := some 118) (v := ?_) (a' := ?_) #[true, true, true, true, true, true, true, false, false, false, false, false] rfl rfl (any_of HT_.out (by kernel_rfl)) (fun _ _ _ h => h) (Or.inl ⟨by rfl, ?_⟩) ?_ ?_
                     rotate_left
                     ·intro w'
                      go_simp
                      with_reducible rfl
                     rotate_left
                     ·simp only [Act.put, List.setIfInBounds_toArray, List.set_cons_zero, List.set_cons_succ, i64_w, i32_w]
                      rfl
                     refine pure_ (i := 7) (N := some 125) (v := ?_) (a' := ?_) #[true, true, true, true, true, true, true, true, false, false, false, false] rfl rfl (any_of HT_.out (by kernel_rfl)) (fun _ _ _ h => h) (Or.inl ⟨by rfl, ?_⟩) ?_ ?_
                     rotate_left
                     ·intro w'
                      go_simp
                      with_reducible rfl
                     rotate_left
                     ·simp only [Act.put, List.setIfInBounds_toArray, List.set_cons_zero, List.set_cons_succ, i64_w, i32_w]
                      rfl
                     refine pure_ (i := 8) (N := some 126) (v := ?_) (a' := ?_) #[true, true, true, true, true, true, true, true, true, false, false, false] rfl rfl (any_of HT_.out (by kernel_rfl)) (fun _ _ _ h => h) (Or.inl ⟨by rfl, ?_⟩) ?_ ?_
                     rotate_left
                     ·intro w'
                      go_simp
                      with_reducible rfl
                     rotate_left
                     ·simp only [Act.put, List.setIfInBounds_toArray, List.set_cons_zero, List.set_cons_succ, i64_w, i32_w]
                      rfl
                     refine one_ (i := 9) (N := some 16) #[true, true, true, true, true, true, true, true, true, true, false, false] rfl rfl (one_of HT_.out (by kernel_rfl)) (by decide) (fun K hK => ?_)
                     refine box_step ?hg (N := 16) ?hd (cs := #[.slice none 0 0, .slice none 0 0]) (t := 29) ?hr ?_; (case hd => rfl); (case hg => rfl); (case hr => first | (go_simp; done) | (go_simp; rfl))
                     intro gb280 hg w91 hbox hb
                     have HS2_ := (hb.cell (World.block_lt_of_cell? _ _ (hHeld.2.2))).trans (hHeld.2.2)
                     have n0_ := Aside0.mk (Kd.R_below (by (with_reducible repeat (first | apply Kd.R_alloc | apply Kd.R_drewN | apply Kd.R_drew)); exact HO_5.out) hb)
                     have n1_ := Aside0.mk (Kd.R_below (by (with_reducible repeat (first | apply Kd.R_alloc | apply Kd.R_drewN | apply Kd.R_drew)); exact HO_6.out) hb)
                     have n2_ := Aside0.mk (Kd.R_below (by (with_reducible repeat (first | apply Kd.R_alloc | apply Kd.R_drewN | apply Kd.R_drew)); exact HO_239000.out) hb)
                     have n3_ := Aside0.mk (Kd.Q_below (by (with_reducible repeat (first | apply Kd.Q_alloc | apply Kd.Q_drewN | apply Kd.Q_drew)); exact HO_239001.out) hb)
                     have n4_ := Aside0.mk (Kd.R_below (by (with_reducible repeat (first | apply Kd.R_alloc | apply Kd.R_drewN | apply Kd.R_drew)); exact HO275.out) hb)
                     have n5_ := Aside0.mk (Kd.R_below (by (with_reducible repeat (first | apply Kd.R_alloc | apply Kd.R_drewN | apply Kd.R_drew)); exact HO278.out) hb)
                     have n6_ := Aside0.mk (blk_below (g := gb238) (o := .cells #[.slice Ao87 x239000_1.length co87, .slice Ao88 x239001_1.length co88] 29 (0, 0)) (by (with_reducible repeat (first | refine blk_drewN ?_ _ | refine blk_drew ?_ | refine blk_alloc ?_ _)); exact BK238.out) hb)
                     have n7_ := Aside0.mk (below_step (by repeat (first | (with_reducible first | exact HB.out | apply below_alloc | apply pw_below_drewN | apply below_drew1 | refine below_set ?_ GE238.out) | exact HB.out)) hb)
                     have n8_ := Aside0.mk (hbox)
                     have n9_ := Aside0.mk ((by rw [hg]; exact (below_size (by repeat (first | (with_reducible first | exact HB.out | apply below_alloc | apply pw_below_drewN | apply below_drew1 | refine below_set ?_ GE238.out) | exact HB.out))) : w.heap.size ≤ gb280))
                     have n10_ := Aside0.mk ((by rw [hg]; exact (below_size (by repeat (first | (with_reducible first | exact HB.out | apply below_alloc | apply pw_below_drewN | apply below_drew1 | refine below_set ?_ GE238.out) | exact HB.out))) : w.heap.size ≤ gb280))
                     have n11_ := Aside0.mk ((by rw [hg]; exact Nat.ne_of_lt (blk_lt (g := gb238) (o := .cells #[.slice Ao87 x239000_1.length co87, .slice Ao88 x239001_1.length co88] 29 (0, 0)) (by (with_reducible repeat (first | refine blk_drewN ?_ _ | refine blk_drew ?_ | refine blk_alloc ?_ _)); exact BK238.out)) : gb238 ≠ gb280))
                     have n12_ := Aside0.mk ((by rw [hg]; exact Nat.ne_of_gt (blk_lt (g := gb238) (o := .cells #[.slice Ao87 x239000_1.length co87, .slice Ao88 x239001_1.length co88] 29 (0, 0)) (by (with_reducible repeat (first | refine blk_drewN ?_ _ | refine blk_drew ?_ | refine blk_alloc ?_ _)); exact BK238.out)) : gb280 ≠ gb238))
                     clear HO_5
                     clear HO_6
                     clear HO_239000
                     clear HO_239001
                     clear HO275
                     clear HO278
                     clear BK238
                     clear HB
                     have HO_5 := n0_
                     have HO_6 := n1_
                     have HO_239000 := n2_
                     have HO_239001 := n3_
                     have HO275 := n4_
                     have HO278 := n5_
                     have BK238 := n6_
                     have HB := n7_
                     have BK280 := n8_
                     have GW280 := n9_
                     have GE280 := n10_
                     have NB238_280 := n11_
                     have NB280_238 := n12_
                     clear n0_ n1_ n2_ n3_ n4_ n5_ n6_ n7_ n8_ n9_ n10_ n11_ n12_
                     clear hb hbox hg
                     refine hK.out _ _ ⟨(blk_cell BK238.out 0).trans rfl, (blk_cell BK238.out 1).trans rfl, HS2_⟩ (fun hHeld => ?_)
                     clear hK K
                     refine norm_ (a' := ?_) ?_ ?_
                     rotate_left
                     ·show Act.put _ (some 16) _ = _
                      simp only [Act.put, List.setIfInBounds_toArray, List.set_cons_zero, List.set_cons_succ, i64_w, i32_w]
                      rfl
                     exact norm_ (by simp only [putAll, Act.put, List.setIfInBounds_toArray, List.set_cons_zero, List.set_cons_succ]) (hCont (v274, v277, gb280) _ ⟨hHeld, (by (with_reducible repeat (first | apply Kd.R_alloc | apply Kd.R_drewN | apply Kd.R_drew)); exact Kd.R_mono HO275.out (fun _ hk => hk.2)), (by (with_reducible repeat (first | apply Kd.R_alloc | apply Kd.R_drewN | apply Kd.R_drew)); exact Kd.R_mono HO278.out (fun _ hk => ⟨hk.2, ⟨hk.1.1.2, hk.1.2⟩⟩)), (by (with_reducible repeat (first | apply Kd.R_alloc | apply Kd.R_drewN | apply Kd.R_drew)); exact Kd.R_mono HO_239000.out (fun _ hk => hk.2)), (by (with_reducible repeat (first | apply Kd.Q_alloc | apply Kd.Q_drewN | apply Kd.Q_drew)); exact Kd.Q_mono HO_239001.out (fun _ hk => ⟨hk.2, ⟨hk.1.1, hk.1.2⟩⟩)), (by (with_reducible repeat (first | apply Kd.R_alloc | apply Kd.R_drewN | apply Kd.R_drew)); exact Kd.R_mono HO_5.out (fun _ hk => by first | exact ⟨hk.2, ⟨hk.1.1, hk.1.2⟩⟩ | exact ⟨hk.2, ⟨hk.1.2, hk.1.1⟩⟩)), (by (with_reducible repeat (first | apply Kd.R_alloc | apply Kd.R_drewN | apply Kd.R_drew)); exact Kd.R_mono HO_6.out (fun _ hk => by first | exact ⟨hk.2, ⟨hk.1.1, hk.1.2⟩⟩ | exact ⟨hk.2, ⟨hk.1.2, hk.1.1⟩⟩)), (by (with_reducible repeat (first | refine blk_drewN ?_ _ | refine blk_drew ?_ | refine blk_alloc ?_ _)); exact BK238.out), (by (with_reducible repeat (first | refine blk_drewN ?_ _ | refine blk_drew ?_ | refine blk_alloc ?_ _)); exact BK280.out), GW280.out, GE280.out, NB238_280.out, NB280_238.out, (by repeat (first | (with_reducible first | exact HB.out | apply below_alloc | apply pw_below_drewN | apply below_drew1 | refine below_set ?_ GE238.out | refine below_set ?_ GE280.out) | exact HB.out))⟩)
                    ·skip
                     refine box_step ?hg (N := 16) ?hd (cs := #[.slice none 0 0, .slice none 0 0]) (t := 29) ?hr ?_; (case hd => rfl); (case hg => rfl); (case hr => first | (go_simp; done) | (go_simp; rfl))
                     intro gb280 hg w90 hbox hb
                     have HS2_ := (hb.cell (World.block_lt_of_cell? _ _ (hHeld.2.2))).trans (hHeld.2.2)
                     have n0_ := Aside0.mk (Kd.R_below (by (with_reducible repeat (first | apply Kd.R_alloc | apply Kd.R_drewN | apply Kd.R_drew)); exact HO_5.out) hb)
                     have n1_ := Aside0.mk (Kd.R_below (by (with_reducible repeat (first | apply Kd.R_alloc | apply Kd.R_drewN | apply Kd.R_drew)); exact HO_6.out) hb)
                     have n2_ := Aside0.mk (Kd.R_below (by (with_reducible repeat (first | apply Kd.R_alloc | apply Kd.R_drewN | apply Kd.R_drew)); exact HO_239000.out) hb)
                     have n3_ := Aside0.mk (Kd.Q_below (by (with_reducible repeat (first | apply Kd.Q_alloc | apply Kd.Q_drewN | apply Kd.Q_drew)); exact HO_239001.out) hb)
                     have n4_ := Aside0.mk (blk_below (g := gb238) (o := .cells #[.slice Ao87 x239000_1.length co87, .slice Ao88 x239001_1.length co88] 29 (0, 0)) (by (with_reducible repeat (first | refine blk_drewN ?_ _ | refine blk_drew ?_ | refine blk_alloc ?_ _)); exact BK238.out) hb)
                     have n5_ := Aside0.mk (below_step (by repeat (first | (with_reducible first | exact HB.out | apply below_alloc | apply pw_below_drewN | apply below_drew1 | refine below_set ?_ GE238.out) | exact HB.out)) hb)
                     have n6_ := Aside0.mk (hbox)
                     have n7_ := Aside0.mk ((by rw [hg]; exact (below_size (by repeat (first | (with_reducible first | exact HB.out | apply below_alloc | apply pw_below_drewN | apply below_drew1 | refine below_set ?_ GE238.out) | exact HB.out))) : w.heap.size ≤ gb280))
                     have n8_ := Aside0.mk ((by rw [hg]; exact (below_size (by repeat (first | (with_reducible first | exact HB.out | apply below_alloc | apply pw_below_drewN | apply below_drew1 | refine below_set ?_ GE238.out) | exact HB.out))) : w.heap.size ≤ gb280))
                     have n9_ := Aside0.mk ((by rw [hg]; exact Nat.ne_of_lt (blk_lt (g := gb238) (o := .cells #[.slice Ao87 x239000_1.length co87, .slice Ao88 x239001_1.length co88] 29 (0, 0)) (by (with_reducible repeat (first | refine blk_drewN ?_ _ | refine blk_drew ?_ | refine blk_alloc ?_ _)); exact BK238.out)) : gb238 ≠ gb280))
                     have n10_ := Aside0.mk ((by rw [hg]; exact Nat.ne_of_gt (blk_lt (g := gb238) (o := .cells #[.slice Ao87 x239000_1.length co87, .slice Ao88 x239001_1.length co88] 29 (0, 0)) (by (with_reducible repeat (first | refine blk_drewN ?_ _ | refine blk_drew ?_ | refine blk_alloc ?_ _)); exact BK238.out)) : gb280 ≠ gb238))
                     clear HO_5
                     clear HO_6
                     clear HO_239000
                     clear HO_239001
                     clear BK238
                     clear HB
                     have HO_5 := n0_
                     have HO_6 := n1_
                     have HO_239000 := n2_
                     have HO_239001 := n3_
                     have BK238 := n4_
                     have HB := n5_
                     have BK280 := n6_
                     have GW280 := n7_
                     have GE280 := n8_
                     have NB238_280 := n9_
                     have NB280_238 := n10_
                     clear n0_ n1_ n2_ n3_ n4_ n5_ n6_ n7_ n8_ n9_ n10_
                     clear hb hbox hg
                     refine hK.out _ _ ⟨(blk_cell BK238.out 0).trans rfl, (blk_cell BK238.out 1).trans rfl, HS2_⟩ (fun hHeld => ?_)
                     clear hK K
                     refine norm_ (a' := ?_) ?_ ?_
                     rotate_left
                     ·show Act.put _ (some 16) _ = _
                      simp only [Act.put, List.setIfInBounds_toArray, List.set_cons_zero, List.set_cons_succ, i64_w, i32_w]
                      rfl
                     refine one_ (i := 5) (N := some 124) #[true, true, true, true, true, true, false, false, false, true, false, false] rfl rfl (one_of HT_.out (by kernel_rfl)) (by decide) (fun K hK => ?_)
                     refine goes_ Tryd.func15 (by kernel_rfl) rfl #[.agg #[.slice Ao87 x239000_1.length co87, .slice Ao88 x239001_1.length co88], .int .i64 (rd x5_1 (ji73))] (by rfl) rfl rfl (by (try simp only [List.map_toArray, List.map_cons, List.map_nil]); first | done | (simp only [hji73]; rfl) | rfl | (simp only [List.length_drop, List.length_take]; rfl)) ?_
                     with_reducible refine (impl_Give.calls k1 _ _ x239000_1 _ _ x239001_1 (rd x5_1 (ji73)) t273 t276 true _ ?side1 ?side2 ?side3 ?side4 A76.out).mono ?_
                     (case side1 => repeat (first | exact (Kd.R_reads' HO_239000.out).2.2 | (with_reducible refine Kd.C_alloc ?_ _) | (with_reducible refine Kd.C_drewN ?_ _) | (with_reducible refine Kd.C_drew ?_)))
                     (case side2 => exact (Kd.R_reads' HO_239000.out).2.1)
                     (case side3 => repeat (first | exact (Kd.Q_reads' HO_239001.out).2.2 | (with_reducible refine Kd.C_alloc ?_ _) | (with_reducible refine Kd.C_drewN ?_ _) | (with_reducible refine Kd.C_drew ?_)))
                     (case side4 => exact (Kd.Q_reads' HO_239001.out).2.1)
                     rintro e w91 ⟨v274, v277, rfl, ho0, ho1, hb⟩
                     have HS2_ := (hb.cell (World.block_lt_of_cell? _ _ (hHeld.2.2))).trans (hHeld.2.2)
                     refine ⟨_, rfl, ?_⟩
                     have n0_ := Aside0.mk (Kd.R_elder' (by (with_reducible repeat (first | apply Kd.R_alloc | apply Kd.R_drewN | apply Kd.R_drew)); exact HO_5.out) (Kd.R_base ho1) hb)
                     have n1_ := Aside0.mk (Kd.R_elder' (by (with_reducible repeat (first | apply Kd.R_alloc | apply Kd.R_drewN | apply Kd.R_drew)); exact HO_6.out) (Kd.R_base ho1) hb)
                     have n2_ := Aside0.mk (Kd.R_elder' (by (with_reducible repeat (first | apply Kd.R_alloc | apply Kd.R_drewN | apply Kd.R_drew)); exact HO_239000.out) (Kd.R_base ho0) hb)
                     have n3_ := Aside0.mk (Kd.Q_elder' (by (with_reducible repeat (first | apply Kd.Q_alloc | apply Kd.Q_drewN | apply Kd.Q_drew)); exact HO_239001.out) (Kd.R_base ho1) hb)
                     have n4_ := Aside0.mk (Kd.R_lower (Kd.R_new' ho0 (Kd.R_lt (by (with_reducible repeat (first | apply Kd.R_alloc | apply Kd.R_drewN | apply Kd.R_drew)); exact HO_239000.out))) (below_size (by repeat (first | (with_reducible first | exact HB.out | apply below_alloc | apply pw_below_drewN | apply below_drew1 | refine below_set ?_ GE238.out | refine below_set ?_ GE280.out) | exact HB.out))))
                     have n5_ := Aside0.mk (Kd.R_lower (Kd.R_new' (Kd.R_new' (Kd.R_new' ho1 (Kd.R_lt (by (with_reducible repeat (first | apply Kd.R_alloc | apply Kd.R_drewN | apply Kd.R_drew)); exact HO_5.out))) (Kd.R_lt (by (with_reducible repeat (first | apply Kd.R_alloc | apply Kd.R_drewN | apply Kd.R_drew)); exact HO_6.out))) (Kd.Q_lt (by (with_reducible repeat (first | apply Kd.Q_alloc | apply Kd.Q_drewN | apply Kd.Q_drew)); exact HO_239001.out))) (below_size (by repeat (first | (with_reducible first | exact HB.out | apply below_alloc | apply pw_below_drewN | apply below_drew1 | refine below_set ?_ GE238.out | refine below_set ?_ GE280.out) | exact HB.out))))
                     have n6_ := Aside0.mk (blk_below (g := gb238) (o := .cells #[.slice Ao87 x239000_1.length co87, .slice Ao88 x239001_1.length co88] 29 (0, 0)) (by (with_reducible repeat (first | refine blk_drewN ?_ _ | refine blk_drew ?_ | refine blk_alloc ?_ _)); exact BK238.out) hb)
                     have n7_ := Aside0.mk (blk_below (g := gb280) (o := .cells #[.slice none 0 0, .slice none 0 0] 29 (0, 0)) (by (with_reducible repeat (first | refine blk_drewN ?_ _ | refine blk_drew ?_ | refine blk_alloc ?_ _)); exact BK280.out) hb)
                     have n8_ := Aside0.mk (below_step (by repeat (first | (with_reducible first | exact HB.out | apply below_alloc | apply pw_below_drewN | apply below_drew1 | refine below_set ?_ GE238.out | refine below_set ?_ GE280.out) | exact HB.out)) hb)
                     clear HO_5
                     clear HO_6
                     clear HO_239000
                     clear HO_239001
                     clear BK238
                     clear BK280
                     clear HB
                     have HO_5 := n0_
                     have HO_6 := n1_
                     have HO_239000 := n2_
                     have HO_239001 := n3_
                     have HO275 := n4_
                     have HO278 := n5_
                     have BK238 := n6_
                     have BK280 := n7_
                     have HB := n8_
                     clear n0_ n1_ n2_ n3_ n4_ n5_ n6_ n7_ n8_
                     (try clear hb)
                     (try clear hb2)
                     (try clear hk)
                     (try clear hi)
                     (try clear ho0)
                     (try clear ho1)
                     refine hK.out _ _ ⟨(blk_cell BK238.out 0).trans rfl, (blk_cell BK238.out 1).trans rfl, HS2_⟩ (fun hHeld => ?_)
                     clear hK K
                     refine norm_ (a' := ?_) ?_ ?_
                     rotate_left
                     ·show Act.put _ (some 124) _ = _
                      simp only [Act.put, List.setIfInBounds_toArray, List.set_cons_zero, List.set_cons_succ, i64_w, i32_w]
                      rfl
                     refine pure_ (i := 6) (N := some 118) (v := ?_) (a' := ?_) #[true, true, true, true, true, true, true, false, false, true, false, false] rfl rfl (any_of HT_.out (by kernel_rfl)) (fun _ _ _ h => h) (Or.inl ⟨by rfl, ?_⟩) ?_ ?_
                     rotate_left
                     ·intro w'
                      go_simp
                      with_reducible rfl
                     rotate_left
                     ·simp only [Act.put, List.setIfInBounds_toArray, List.set_cons_zero, List.set_cons_succ, i64_w, i32_w]
                      rfl
                     refine pure_ (i := 7) (N := some 125) (v := ?_) (a' := ?_) #[true, true, true, true, true, true, true, true, false, true, false, false] rfl rfl (any_of HT_.out (by kernel_rfl)) (fun _ _ _ h => h) (Or.inl ⟨by rfl, ?_⟩) ?_ ?_
                     rotate_left
                     ·intro w'
                      go_simp
                      with_reducible rfl
                     rotate_left
                     ·simp only [Act.put, List.setIfInBounds_toArray, List.set_cons_zero, List.set_cons_succ, i64_w, i32_w]
                      rfl
                     refine pure_ (i := 8) (N := some 126) (v := ?_) (a' := ?_) #[true, true, true, true, true, true, true, true, true, true, false, false] rfl rfl (any_of HT_.out (by kernel_rfl)) (fun _ _ _ h => h) (Or.inl ⟨by rfl, ?_⟩) ?_ ?_
                     rotate_left
                     ·intro w'
                      go_simp
                      with_reducible rfl
                     rotate_left
                     ·simp only [Act.put, List.setIfInBounds_toArray, List.set_cons_zero, List.set_cons_succ, i64_w, i32_w]
                      rfl
                     exact norm_ (by simp only [putAll, Act.put, List.setIfInBounds_toArray, List.set_cons_zero, List.set_cons_succ]) (hCont (v274, v277, gb280) _ ⟨hHeld, (by (with_reducible repeat (first | apply Kd.R_alloc | apply Kd.R_drewN | apply Kd.R_drew)); exact Kd.R_mono HO275.out (fun _ hk => hk.2)), (by (with_reducible repeat (first | apply Kd.R_alloc | apply Kd.R_drewN | apply Kd.R_drew)); exact Kd.R_mono HO278.out (fun _ hk => ⟨hk.2, ⟨hk.1.1.2, hk.1.2⟩⟩)), (by (with_reducible repeat (first | apply Kd.R_alloc | apply Kd.R_drewN | apply Kd.R_drew)); exact Kd.R_mono HO_239000.out (fun _ hk => hk.2)), (by (with_reducible repeat (first | apply Kd.Q_alloc | apply Kd.Q_drewN | apply Kd.Q_drew)); exact Kd.Q_mono HO_239001.out (fun _ hk => ⟨hk.2, ⟨hk.1.1, hk.1.2⟩⟩)), (by (with_reducible repeat (first | apply Kd.R_alloc | apply Kd.R_drewN | apply Kd.R_drew)); exact Kd.R_mono HO_5.out (fun _ hk => by first | exact ⟨hk.2, ⟨hk.1.1, hk.1.2⟩⟩ | exact ⟨hk.2, ⟨hk.1.2, hk.1.1⟩⟩)), (by (with_reducible repeat (first | apply Kd.R_alloc | apply Kd.R_drewN | apply Kd.R_drew)); exact Kd.R_mono HO_6.out (fun _ hk => by first | exact ⟨hk.2, ⟨hk.1.1, hk.1.2⟩⟩ | exact ⟨hk.2, ⟨hk.1.2, hk.1.1⟩⟩)), (by (with_reducible repeat (first | refine blk_drewN ?_ _ | refine blk_drew ?_ | refine blk_alloc ?_ _)); exact BK238.out), (by (with_reducible repeat (first | refine blk_drewN ?_ _ | refine blk_drew ?_ | refine blk_alloc ?_ _)); exact BK280.out), GW280.out, GE280.out, NB238_280.out, NB280_238.out, (by repeat (first | (with_reducible first | exact HB.out | apply below_alloc | apply pw_below_drewN | apply below_drew1 | refine below_set ?_ GE238.out | refine below_set ?_ GE280.out) | exact HB.out))⟩)
                   rintro ⟨v274, v277, gb280⟩ w92 ⟨hS_, h0_, h1_, h2_, h3_, h4_, h5_, h6_, h7_, h8_, h9_, h10_, h11_, h12_⟩
                   have n0_ : Aside0 (Kd.R k46 46 w92 w.heap.size (fun k_ => some k_ ≠ (.slice Ao87 x239000_1.length co87 : Value).ownBlock) v274 t273) := ⟨h0_⟩
                   have n1_ : Aside0 (Kd.R (Kd.int .i64) 3 w92 w.heap.size (fun k_ => some k_ ≠ (.slice Ao88 x239001_1.length co88 : Value).ownBlock ∧ some k_ ≠ (.slice (some ad272) x5_1.length co86 : Value).ownBlock ∧ some k_ ≠ (u6 : Value).ownBlock) v277 t276) := ⟨h1_⟩
                   have n2_ : Aside0 (Kd.R k46 46 w92 w.heap.size (fun k_ => some k_ ≠ (v274 : Value).ownBlock) (.slice Ao87 x239000_1.length co87) x239000_1) := ⟨h2_⟩
                   have n3_ : Aside0 (Kd.Q (Kd.int .i64) 3 w92 w.heap.size (fun k_ => some k_ ≠ (v277 : Value).ownBlock ∧ some k_ ≠ (.slice (some ad272) x5_1.length co86 : Value).ownBlock ∧ some k_ ≠ (u6 : Value).ownBlock) (.slice Ao88 x239001_1.length co88) x239001_1) := ⟨h3_⟩
                   have n4_ : Aside0 (Kd.R (Kd.int .i64) 3 w92 w.heap.size (fun k_ => some k_ ≠ (v277 : Value).ownBlock ∧ some k_ ≠ (.slice Ao88 x239001_1.length co88 : Value).ownBlock ∧ some k_ ≠ (u6 : Value).ownBlock) (.slice (some ad272) x5_1.length co86) x5_1) := ⟨h4_⟩
                   have n5_ : Aside0 (Kd.R (Kd.int .i64) 3 w92 w.heap.size (fun k_ => some k_ ≠ (v277 : Value).ownBlock ∧ some k_ ≠ (.slice Ao88 x239001_1.length co88 : Value).ownBlock ∧ some k_ ≠ (.slice (some ad272) x5_1.length co86 : Value).ownBlock) u6 x6_1) := ⟨h5_⟩
                   have n6_ : Aside0 (w92.heap[gb238]? = some (.cells #[.slice Ao87 x239000_1.length co87, .slice Ao88 x239001_1.length co88] 29 (0, 0))) := ⟨h6_⟩
                   have n7_ : Aside0 (w92.heap[gb280]? = some (.cells #[.slice none 0 0, .slice none 0 0] 29 (0, 0))) := ⟨h7_⟩
                   have n8_ : Aside0 (w.heap.size ≤ gb280) := ⟨h8_⟩
                   have n9_ : Aside0 (w.heap.size ≤ gb280) := ⟨h9_⟩
                   have n10_ : Aside0 (gb238 ≠ gb280) := ⟨h10_⟩
                   have n11_ : Aside0 (gb280 ≠ gb238) := ⟨h11_⟩
                   have n12_ : Aside0 (Below w.heap.size w w92) := ⟨h12_⟩
                   clear HO_5
                   clear HO_6
                   clear HO_239000
                   clear HO_239001
                   clear BK238
                   clear HB
                   clear h0_ h1_ h2_ h3_ h4_ h5_ h6_ h7_ h8_ h9_ h10_ h11_ h12_
                   have HO275 := n0_
                   have HO278 := n1_
                   have HO_239000 := n2_
                   have HO_239001 := n3_
                   have HO_5 := n4_
                   have HO_6 := n5_
                   have BK238 := n6_
                   have BK280 := n7_
                   have GW280 := n8_
                   have GE280 := n9_
                   have NB238_280 := n10_
                   have NB280_238 := n11_
                   have HB := n12_
                   clear n0_ n1_ n2_ n3_ n4_ n5_ n6_ n7_ n8_ n9_ n10_ n11_ n12_
                   have hHeld : w92.cell? ⟨gb238, 0, none⟩ = some (.slice Ao87 x239000_1.length co87) ∧ w92.cell? ⟨gb238, 1, none⟩ = some (.slice Ao88 x239001_1.length co88) ∧ w92.cell? (ad272.add ((ji73)).toNat) = some (.int .i64 (rd x5_1 (ji73))) := hS_
                   obtain ⟨Ao93, co93, eo93⟩ := Kd.R_slice HO275.out
                   (first | subst eo93 | (injection eo93 with f1_ f2_ f3_; have f4_ := f1_.symm; have f5_ := f3_.symm; clear f1_ f2_ f3_; subst f4_; subst f5_))
                   obtain ⟨Ao95, co95, eo95⟩ := Kd.R_slice HO278.out
                   (first | subst eo95 | (injection eo95 with f1_ f2_ f3_; have f4_ := f1_.symm; have f5_ := f3_.symm; clear f1_ f2_ f3_; subst f4_; subst f5_))
                   refine norm_ (a' := ?_) ?_ ?_
                   rotate_left
                   ·simp only [putAll, Act.put, List.setIfInBounds_toArray, List.set_cons_zero, List.set_cons_succ]
                    rfl
                   refine one_ (i := 10) (N := none) #[true, true, true, true, true, true, true, true, true, true, true, false] rfl rfl (one_of HT_.out (by kernel_rfl)) (by decide) (fun K hK => ?_)
                   have hs94 : w92.cell? ⟨gb280, 0, none⟩ = some (.slice none 0 0) := (blk_cell BK280.out 0).trans rfl
                   have hfs94 := blk_frozen BK280.out 0
                   have hns94_0 := NB238_280.out
                   have hms94_0 := NB280_238.out
                   have hs96 : w92.cell? ⟨gb280, 1, none⟩ = some (.slice none 0 0) := (blk_cell BK280.out 1).trans rfl
                   have hfs96 := blk_frozen BK280.out 1
                   have hns96_0 := NB238_280.out
                   have hms96_0 := NB280_238.out
                   refine skip_ (w1 := ?_) (by rfl) rfl ?_ ?_
                   rotate_left
                   ·go_simp
                    rfl
                   refine hK.out _ _ ⟨((cell_far (p := ⟨gb280, _, none⟩) NB238_280.out _).trans (((cell_far (p := ⟨gb280, _, none⟩) NB238_280.out _).trans (hHeld.1)))), ((cell_far (p := ⟨gb280, _, none⟩) NB238_280.out _).trans (((cell_far (p := ⟨gb280, _, none⟩) NB238_280.out _).trans (hHeld.2.1)))), ((cell_far (p := ⟨gb280, _, none⟩) (by first | exact Kd.own_blk (Kd.R_ne HO_5.out BK280.out (by decide)) | (rw [add_block]; exact Kd.own_blk (Kd.R_ne HO_5.out BK280.out (by decide))) | (show (Addr.add _ _).block ≠ _; rw [add_block]; exact Kd.own_blk (Kd.R_ne HO_5.out BK280.out (by decide))) | (dsimp only; exact Kd.own_blk (Kd.R_ne HO_5.out BK280.out (by decide)))) _).trans (((cell_far (p := ⟨gb280, _, none⟩) (by first | exact Kd.own_blk (Kd.R_ne HO_5.out BK280.out (by decide)) | (rw [add_block]; exact Kd.own_blk (Kd.R_ne HO_5.out BK280.out (by decide))) | (show (Addr.add _ _).block ≠ _; rw [add_block]; exact Kd.own_blk (Kd.R_ne HO_5.out BK280.out (by decide))) | (dsimp only; exact Kd.own_blk (Kd.R_ne HO_5.out BK280.out (by decide)))) _).trans (hHeld.2.2))))⟩ (fun hHeld => ?_)
                   clear hK K
                   refine pure_ (i := 11) (N := some 17) (v := ?_) (a' := ?_) #[true, true, true, true, true, true, true, true, true, true, true, true] rfl rfl (any_of HT_.out (by kernel_rfl)) (fun _ _ _ h => h) (Or.inl ⟨by rfl, ?_⟩) ?_ ?_
                   rotate_left
                   ·intro w'
                    go_simp
                    with_reducible rfl
                   rotate_left
                   ·simp only [Act.put, List.setIfInBounds_toArray, List.set_cons_zero, List.set_cons_succ, i64_w, i32_w]
                    rfl
                   refine done_ (done_of HT_.out (by kernel_rfl)) ?_
                   have hnb97 := NB280_238.out
                   have hnc97 := NB238_280.out
                   have hcz98_0 : w92.cell? ⟨gb280, 0, none⟩ = some (.slice none 0 0) := (blk_cell BK280.out 0).trans rfl
                   have hcz98_1 : w92.cell? ⟨gb280, 1, none⟩ = some (.slice none 0 0) := (blk_cell BK280.out 1).trans rfl
                   have hfz98_0 := blk_frozen BK280.out 0
                   have hfz98_1 := blk_frozen BK280.out 1
                   have hcz99_0 : w92.cell? ⟨gb238, 0, none⟩ = some (.slice Ao87 x239000_1.length co87) := (blk_cell BK238.out 0).trans rfl
                   have hcz99_1 : w92.cell? ⟨gb238, 1, none⟩ = some (.slice Ao88 x239001_1.length co88) := (blk_cell BK238.out 1).trans rfl
                   have hfz99_0 := blk_frozen BK238.out 0
                   have hfz99_1 := blk_frozen BK238.out 1
                   have p281 : 0 ≤ ((ji73) : Int) := of_decide_eq_true (by first | (with_reducible assumption) | assumption)
                   have q281 : (ji73) < (x5_1.length : Int) := of_decide_eq_true (by first | (with_reducible assumption) | assumption)
                   obtain ⟨ad281, e281, hx281_0⟩ := Kd.at_int (Kd.R_reads' HO_5.out).2.2 (ji73) p281 q281
                   obtain rfl : ad272 = ad281 := (by injection e281)
                   have hn281_0 : ad272.block ≠ gb280 := Kd.own_blk (Kd.R_ne HO_5.out BK280.out (by decide))
                   have hn281_1 : ad272.block ≠ gb280 := Kd.own_blk (Kd.R_ne HO_5.out BK280.out (by decide))
                   have hn281_2 : ad272.block ≠ gb238 := Kd.own_blk (Kd.R_ne HO_5.out BK238.out (by decide))
                   have hn281_3 : ad272.block ≠ gb238 := Kd.own_blk (Kd.R_ne HO_5.out BK238.out (by decide))
                   replace hx281_0 := (cell_far (p := ⟨gb280, 0, none⟩) (by first | (rw [add_block]; exact hn281_0) | (show (Addr.add _ _).block ≠ _; rw [add_block]; exact hn281_0) | exact hn281_0) (.slice Ao93 t273.length co93)).trans hx281_0
                   replace hx281_0 := (cell_far (p := ⟨gb280, 1, none⟩) (by first | (rw [add_block]; exact hn281_1) | (show (Addr.add _ _).block ≠ _; rw [add_block]; exact hn281_1) | exact hn281_1) (.slice Ao95 t276.length co95)).trans hx281_0
                   replace hx281_0 := (cell_far (p := ⟨gb238, 0, none⟩) (by first | (rw [add_block]; exact hn281_2) | (show (Addr.add _ _).block ≠ _; rw [add_block]; exact hn281_2) | exact hn281_2) (.slice Ao93 t273.length co93)).trans hx281_0
                   replace hx281_0 := (cell_far (p := ⟨gb238, 1, none⟩) (by first | (rw [add_block]; exact hn281_3) | (show (Addr.add _ _).block ≠ _; rw [add_block]; exact hn281_3) | exact hn281_3) (.slice Ao95 t276.length co95)).trans hx281_0
                   clear hn281_0
                   clear hn281_1
                   clear hn281_2
                   clear hn281_3
                   replace p281 := eq_true p281
                   replace q281 := eq_true q281
                   try go_wp2_with (first | ((with_reducible refine gate_builtin (b := .append) (xs := #[.tmp 130, .tmp 135]) rfl ?_); (try (refine gate_guard (by rfl) ?_; dsimp only)); at_builtin; refine Kd.R_append (Kd.int .i64) (w0 := w) w.heap.size rfl (.tmp 130) (.tmp 135) 27 3 (.int .i64 0) 8 rfl Tryd.underlying27 info3 rfl (by decide) (by omega) u6 x6_1 (rd x5_1 (ji73)) [.int .i64 (rd x5_1 (ji73))] (fun k_ => some k_ ≠ (.slice (some ad272) x5_1.length co86 : Value).ownBlock ∧ some k_ ≠ (.slice Ao88 x239001_1.length co88 : Value).ownBlock ∧ some k_ ≠ (.slice Ao95 t276.length co95 : Value).ownBlock) (fun _ => False) rfl (by first | (go_simp; done) | (go_simp; rfl)) ?aP (fun _ hk => hk.elim) ?aF ?aO ?aB ?aS ?aL ?_; (case aP => exact rfl); (case aB => exact (by repeat (first | (with_reducible first | exact HB.out | apply below_alloc | apply pw_below_drewN | apply below_drew1 | refine below_set ?_ GE238.out | refine below_set ?_ GE280.out) | exact HB.out))); (case aF => exact (fun k_ hk => ⟨Kd.fresh' (Kd.R_lt (by (with_reducible repeat (first | apply Kd.R_alloc | apply Kd.R_drewN | apply Kd.R_drew)); exact (Kd.R_mono (Kd.R_mono (Kd.R_far (Kd.R_far (Kd.R_far (Kd.R_far (Kd.R_types (Kd.R_types HO_5.out BK280.out (by decide)) BK238.out (by decide)) (fun _ hk => hk.1.2) _) (fun _ hk => hk.1.2) _) (fun _ hk => hk.2) _) (fun _ hk => hk.2) _) (fun _ h_ => h_.1)) (fun _ h_ => h_.1)))) k_ hk, Kd.fresh' (Kd.Q_lt (by (with_reducible repeat (first | apply Kd.Q_alloc | apply Kd.Q_drewN | apply Kd.Q_drew)); exact (Kd.Q_mono (Kd.Q_mono (Kd.Q_far (Kd.Q_far (Kd.Q_far (Kd.Q_far (Kd.Q_types (Kd.Q_types HO_239001.out BK280.out (by decide)) BK238.out (by decide)) (fun _ hk => hk.1.2) _) (fun _ hk => hk.1.2) _) (fun _ hk => hk.2) _) (fun _ hk => hk.2) _) (fun _ h_ => h_.1)) (fun _ h_ => h_.1)))) k_ hk, Kd.fresh' (Kd.R_lt (by (with_reducible repeat (first | apply Kd.R_alloc | apply Kd.R_drewN | apply Kd.R_drew)); exact (Kd.R_mono (Kd.R_mono (Kd.R_far (Kd.R_far (Kd.R_far (Kd.R_far (Kd.R_types (Kd.R_types HO278.out BK280.out (by decide)) BK238.out (by decide)) (fun _ hk => hk.1.2) _) (fun _ hk => hk.1.2) _) (fun _ hk => hk.2) _) (fun _ hk => hk.2) _) (fun _ h_ => h_.1)) (fun _ h_ => h_.1)))) k_ hk⟩)); (case aO => exact (by (with_reducible repeat (first | apply Kd.R_alloc | apply Kd.R_drewN | apply Kd.R_drew)); exact Kd.R_mono (Kd.R_far (Kd.R_far (Kd.R_far (Kd.R_far (Kd.R_types (Kd.R_types HO_6.out BK280.out (by decide)) BK238.out (by decide)) (fun _ hk => hk.1.2) _) (fun _ hk => hk.1.2) _) (fun _ hk => hk.2) _) (fun _ hk => hk.2) _) (fun _ hk => ⟨hk.1.1.2.2, ⟨hk.1.1.2.1, hk.1.1.1⟩⟩))); (case aS => exact (below_size (by repeat (first | (with_reducible first | exact HB.out | apply below_alloc | apply pw_below_drewN | apply below_drew1 | refine below_set ?_ GE238.out | refine below_set ?_ GE280.out) | exact HB.out)))); (case aL => have := LMc78.out; omega); intro v283 w100 ho hb hg hat; rw [← Ny282.out] at ho; have n0_ := Aside0.mk (Kd.R_after (ok := (fun k_ => some k_ ≠ (.slice Ao88 x239001_1.length co88 : Value).ownBlock ∧ some k_ ≠ (.slice Ao95 t276.length co95 : Value).ownBlock)) (by (with_reducible repeat (first | apply Kd.R_alloc | apply Kd.R_drewN | apply Kd.R_drew)); exact Kd.R_mono (Kd.R_far (Kd.R_far (Kd.R_far (Kd.R_far (Kd.R_types (Kd.R_types HO_5.out BK280.out (by decide)) BK238.out (by decide)) (fun _ hk => hk.1.2) _) (fun _ hk => hk.1.2) _) (fun _ hk => hk.2) _) (fun _ hk => hk.2) _) (fun _ hk => ⟨⟨hk.1.1.2.1, hk.1.1.1⟩, hk.1.1.2.2⟩)) hg hat); have n1_ := Aside0.mk (Kd.R_over' (by (with_reducible repeat (first | apply Kd.R_alloc | apply Kd.R_drewN | apply Kd.R_drew)); exact (Kd.R_mono (Kd.R_mono (Kd.R_far (Kd.R_far (Kd.R_far (Kd.R_far (Kd.R_types (Kd.R_types HO_239000.out BK280.out (by decide)) BK238.out (by decide)) (fun _ hk => hk.1.2) _) (fun _ hk => hk.1.2) _) (fun _ hk => hk.2) _) (fun _ hk => hk.2) _) (fun _ h_ => h_.1)) (fun _ h_ => h_.1))) (Kd.R_typed (by (with_reducible repeat (first | apply Kd.R_alloc | apply Kd.R_drewN | apply Kd.R_drew)); exact (Kd.R_mono (Kd.R_mono (Kd.R_far (Kd.R_far (Kd.R_far (Kd.R_far (Kd.R_types (Kd.R_types HO_6.out BK280.out (by decide)) BK238.out (by decide)) (fun _ hk => hk.1.2) _) (fun _ hk => hk.1.2) _) (fun _ hk => hk.2) _) (fun _ hk => hk.2) _) (fun _ h_ => h_.1)) (fun _ h_ => h_.1)))) (by decide) hg); have n2_ := Aside0.mk (Kd.Q_after (ok := (fun k_ => some k_ ≠ (.slice (some ad272) x5_1.length co86 : Value).ownBlock ∧ some k_ ≠ (.slice Ao95 t276.length co95 : Value).ownBlock)) (by (with_reducible repeat (first | apply Kd.Q_alloc | apply Kd.Q_drewN | apply Kd.Q_drew)); exact Kd.Q_mono (Kd.Q_far (Kd.Q_far (Kd.Q_far (Kd.Q_far (Kd.Q_types (Kd.Q_types HO_239001.out BK280.out (by decide)) BK238.out (by decide)) (fun _ hk => hk.1.2) _) (fun _ hk => hk.1.2) _) (fun _ hk => hk.2) _) (fun _ hk => hk.2) _) (fun _ hk => ⟨⟨hk.1.1.2.1, hk.1.1.1⟩, hk.1.1.2.2⟩)) hg hat); have n3_ := Aside0.mk (blk_grown (g := gb238) (o := .cells #[.slice Ao93 t273.length co93, .slice Ao95 t276.length co95] 29 (0, 0)) (by (with_reducible repeat (first | refine blk_drewN ?_ _ | refine blk_drew ?_ | refine blk_alloc ?_ _)); refine blk_put (cs := #[.slice Ao93 t273.length co93, .slice Ao88 x239001_1.length co88]) ?_ 1 _ rfl; (with_reducible repeat (first | refine blk_drewN ?_ _ | refine blk_drew ?_ | refine blk_alloc ?_ _)); refine blk_put (cs := #[.slice Ao87 x239000_1.length co87, .slice Ao88 x239001_1.length co88]) ?_ 0 _ rfl; (with_reducible repeat (first | refine blk_drewN ?_ _ | refine blk_drew ?_ | refine blk_alloc ?_ _)); refine blk_far ?_ NB238_280.out _; (with_reducible repeat (first | refine blk_drewN ?_ _ | refine blk_drew ?_ | refine blk_alloc ?_ _)); refine blk_far ?_ NB238_280.out _; (with_reducible repeat (first | refine blk_drewN ?_ _ | refine blk_drew ?_ | refine blk_alloc ?_ _)); exact BK238.out) hg (Kd.R_ne HO_6.out BK238.out (by decide))); have n4_ := Aside0.mk (Kd.R_over' (by (with_reducible repeat (first | apply Kd.R_alloc | apply Kd.R_drewN | apply Kd.R_drew)); exact (Kd.R_mono (Kd.R_mono (Kd.R_far (Kd.R_far (Kd.R_far (Kd.R_far (Kd.R_types (Kd.R_types HO275.out BK280.out (by decide)) BK238.out (by decide)) (fun _ hk => hk.1.2) _) (fun _ hk => hk.1.2) _) (fun _ hk => hk.2) _) (fun _ hk => hk.2) _) (fun _ h_ => h_.1)) (fun _ h_ => h_.1))) (Kd.R_typed (by (with_reducible repeat (first | apply Kd.R_alloc | apply Kd.R_drewN | apply Kd.R_drew)); exact (Kd.R_mono (Kd.R_mono (Kd.R_far (Kd.R_far (Kd.R_far (Kd.R_far (Kd.R_types (Kd.R_types HO_6.out BK280.out (by decide)) BK238.out (by decide)) (fun _ hk => hk.1.2) _) (fun _ hk => hk.1.2) _) (fun _ hk => hk.2) _) (fun _ hk => hk.2) _) (fun _ h_ => h_.1)) (fun _ h_ => h_.1)))) (by decide) hg); have n5_ := Aside0.mk (Kd.R_after (ok := (fun k_ => some k_ ≠ (.slice (some ad272) x5_1.length co86 : Value).ownBlock ∧ some k_ ≠ (.slice Ao88 x239001_1.length co88 : Value).ownBlock)) (by (with_reducible repeat (first | apply Kd.R_alloc | apply Kd.R_drewN | apply Kd.R_drew)); exact Kd.R_mono (Kd.R_far (Kd.R_far (Kd.R_far (Kd.R_far (Kd.R_types (Kd.R_types HO278.out BK280.out (by decide)) BK238.out (by decide)) (fun _ hk => hk.1.2) _) (fun _ hk => hk.1.2) _) (fun _ hk => hk.2) _) (fun _ hk => hk.2) _) (fun _ hk => ⟨⟨hk.1.1.2.1, hk.1.1.1⟩, hk.1.1.2.2⟩)) hg hat); have n6_ := Aside0.mk (blk_grown (g := gb280) (o := .cells #[.slice Ao93 t273.length co93, .slice Ao95 t276.length co95] 29 (0, 0)) (by (with_reducible repeat (first | refine blk_drewN ?_ _ | refine blk_drew ?_ | refine blk_alloc ?_ _)); refine blk_far ?_ NB280_238.out _; (with_reducible repeat (first | refine blk_drewN ?_ _ | refine blk_drew ?_ | refine blk_alloc ?_ _)); refine blk_far ?_ NB280_238.out _; (with_reducible repeat (first | refine blk_drewN ?_ _ | refine blk_drew ?_ | refine blk_alloc ?_ _)); refine blk_put (cs := #[.slice Ao93 t273.length co93, .slice none 0 0]) ?_ 1 _ rfl; (with_reducible repeat (first | refine blk_drewN ?_ _ | refine blk_drew ?_ | refine blk_alloc ?_ _)); refine blk_put (cs := #[.slice none 0 0, .slice none 0 0]) ?_ 0 _ rfl; (with_reducible repeat (first | refine blk_drewN ?_ _ | refine blk_drew ?_ | refine blk_alloc ?_ _)); exact BK280.out) hg (Kd.R_ne HO_6.out BK280.out (by decide))); have n7_ := Aside0.mk (hb); have n8_ := Aside0.mk (ho); clear HO_5; clear HO_239000; clear HO_239001; clear BK238; clear HO275; clear HO278; clear BK280; clear HB; clear HO_6; have HO_5 := n0_; have HO_239000 := n1_; have HO_239001 := n2_; have BK238 := n3_; have HO275 := n4_; have HO278 := n5_; have BK280 := n6_; have HB := n7_; have HO284 := n8_; clear n0_ n1_ n2_ n3_ n4_ n5_ n6_ n7_ n8_; clear ho hb hg hat))
                   have n0_ := Aside0.mk (Kd.R_drew HO_5.out)
                   have n1_ := Aside0.mk (Kd.R_drew HO_239000.out)
                   have n2_ := Aside0.mk (Kd.Q_drew HO_239001.out)
                   have n3_ := Aside0.mk (Kd.R_drew HO275.out)
                   have n4_ := Aside0.mk (Kd.R_drew HO278.out)
                   have n5_ := Aside0.mk (Kd.R_drew HO284.out)
                   have n6_ := Aside0.mk (blk_drew BK238.out)
                   have n7_ := Aside0.mk (blk_drew BK280.out)
                   have n8_ := Aside0.mk (below_drew1 HB.out)
                   clear HO_5
                   clear HO_239000
                   clear HO_239001
                   clear HO275
                   clear HO278
                   clear HO284
                   clear BK238
                   clear BK280
                   clear HB
                   have HO_5 := n0_
                   have HO_239000 := n1_
                   have HO_239001 := n2_
                   have HO275 := n3_
                   have HO278 := n4_
                   have HO284 := n5_
                   have BK238 := n6_
                   have BK280 := n7_
                   have HB := n8_
                   clear n0_ n1_ n2_ n3_ n4_ n5_ n6_ n7_ n8_
                   have q102 : ((ji73) : Int) ≤ ((x5_1.length : Int) : Int) := of_decide_eq_true (by first | (with_reducible assumption) | assumption)
                   obtain ⟨i0102, hi0102, _, hsz102, _⟩ := info_parts info3
                   have hroom102 : x5_1.length ≤ co86 := (Kd.R_reads' HO_5.out).2.1
                   have hC102 : Kd.C (Kd.int .i64) _ (some ad272) x5_1.length x5_1 := (Kd.R_reads' HO_5.out).2.2
                   have hcut102 := cut_to (P := Tryd.prog) 27 3 .i64 Tryd.underlying27 hi0102 (some ad272) x5_1.length co86 (ji73) (of_decide_eq_true (by first | (with_reducible assumption) | assumption)) q102 hroom102
                   have hr102 := Kd.C_take (m := ((ji73) : Int).toNat) hC102 (by omega)
                   have hy102 : y288.length = ((ji73) : Int).toNat := (by rw [Ny288.out, List.length_take]; omega)
                   rw [← Ny288.out] at hr102
                   rw [← hy102] at hcut102
                   have HR291 := Aside0.mk hr102
                   have HC291 := Aside0.mk (show y288.length ≤ co86 from by omega)
                   clear hr102 hC102 hroom102 hi0102 hsz102
                   have KY102 := Aside0.mk hy102
                   clear hy102
                   have KL102 := Aside0.mk (show ((ji73) : Int).toNat ≤ x5_1.length from by omega)
                   replace q102 := eq_true q102
                   have q103 : ((ji82) : Int) ≤ ((x5_1.length : Int) : Int) := of_decide_eq_true (by first | (with_reducible assumption) | assumption)
                   obtain ⟨i0103, hi0103, _, hsz103, _⟩ := info_parts info3
                   have hroom103 : x5_1.length ≤ co86 := (Kd.R_reads' HO_5.out).2.1
                   have hC103 : Kd.C (Kd.int .i64) _ (some ad272) x5_1.length x5_1 := (Kd.R_reads' HO_5.out).2.2
                   have q0103 : (0 : Int) ≤ ((ji82) : Int) := of_decide_eq_true (by first | (with_reducible assumption) | assumption)
                   have hcut103 := cut_from (P := Tryd.prog) 27 3 .i64 Tryd.underlying27 hi0103 1 hsz103 (some ad272) x5_1.length co86 (ji82) q0103 q103
                   have hr103 := Kd.C_drop (m := ((ji82) : Int).toNat) (c := co86) hC103 (by omega) hroom103
                   obtain ⟨A103, hA103⟩ : ∃ Az_, Az_ = (if co86 = ((ji82) : Int).toNat then (some ad272) else ((some ad272) : Option Addr).map (·.add (((ji82) : Int).toNat * 1))) := ⟨_, rfl⟩
                   obtain ⟨c103, hc103⟩ : ∃ cz_, cz_ = co86 - ((ji82) : Int).toNat := ⟨_, rfl⟩
                   have hy103 : y295.length = x5_1.length - ((ji82) : Int).toNat := (by rw [Ny295.out, List.length_drop] <;> omega)
                   rw [show (x5_1).drop ((ji82) : Int).toNat = y295 from Ny295.out.symm] at hr103
                   replace hr103 : Kd.C (Kd.int .i64) _ A103 y295.length y295 := (by rw [hA103]; exact hr103)
                   rw [← hy103, ← hA103, ← hc103] at hcut103
                   have HR298 := Aside0.mk hr103
                   have HC298 := Aside0.mk (show y295.length ≤ c103 from by rw [hy103, hc103]; exact Nat.sub_le_sub_right hroom103 _)
                   clear hr103 hC103 hroom103 hi0103 hsz103 hc103
                   have KY103 := Aside0.mk hy103
                   have KA103 := Aside0.mk hA103
                   clear hy103 hA103
                   have KL103 := Aside0.mk (show ((ji82) : Int).toNat ≤ x5_1.length from by omega)
                   replace q103 := eq_true q103
                   refine start_ (n := 11) (S := fun w' => True) (ds := []) #[false, false, false, false, false, false, false, false, false, false, false] (by kernel_rfl) rfl rfl trivial (fun hHeld => ?_); refine with_tabW laws_FnHandles.tab28 laws_FnHandles.bits28 (fun HT_ HW_ => ?_)
                   generalize w100.drew = w101 at HO_5 HO_239000 HO_239001 HO275 HO278 HO284 BK238 BK280 HB HR291 HR298 hHeld ⊢
                   refine pure_ (i := 1) (N := some 138) (v := ?_) (a' := ?_) #[false, true, false, false, false, false, false, false, false, false, false] rfl rfl (any_of HT_.out (by kernel_rfl)) (fun _ _ _ h => h) (Or.inl ⟨by rfl, ?_⟩) ?_ ?_
                   rotate_left
                   ·intro w'
                    go_simp
                    with_reducible rfl
                   rotate_left
                   ·simp only [Act.put, List.setIfInBounds_toArray, List.set_cons_zero, List.set_cons_succ, i64_w, i32_w]
                    rfl
                   refine pure_ (i := 2) (N := some 139) (v := ?_) (a' := ?_) #[false, true, true, false, false, false, false, false, false, false, false] rfl rfl (any_of HT_.out (by kernel_rfl)) (fun _ _ _ h => h) (Or.inl ⟨by rfl, ?_⟩) ?_ ?_
                   rotate_left
                   ·intro w'
                    go_simp
                    with_reducible rfl
                   rotate_left
                   ·simp only [Act.put, List.setIfInBounds_toArray, List.set_cons_zero, List.set_cons_succ, i64_w, i32_w]
                    rfl
                   refine pure_ (i := 3) (N := some 140) (v := ?_) (a' := ?_) #[false, true, true, true, false, false, false, false, false, false, false] rfl rfl (any_of HT_.out (by kernel_rfl)) (fun _ _ _ h => h) (Or.inl ⟨by rfl, ?_⟩) ?_ ?_
                   rotate_left
                   ·intro w'
                    go_simp
                    with_reducible rfl
                   rotate_left
                   ·simp only [Act.put, List.setIfInBounds_toArray, List.set_cons_zero, List.set_cons_succ, i64_w, i32_w]
                    rfl
                   refine pure_ (i := 5) (N := some 142) (v := ?_) (a' := ?_) #[false, true, true, true, false, true, false, false, false, false, false] rfl rfl (any_of HT_.out (by kernel_rfl)) (fun _ _ _ h => h) (Or.inl ⟨by rfl, ?_⟩) ?_ ?_
                   rotate_left
                   ·intro w'
                    go_simp
                    with_reducible rfl
                   rotate_left
                   ·simp only [Act.put, List.setIfInBounds_toArray, List.set_cons_zero, List.set_cons_succ, i64_w, i32_w]
                    rfl
                   refine pure_ (i := 6) (N := some 143) (v := ?_) (a' := ?_) #[false, true, true, true, false, true, true, false, false, false, false] rfl rfl (any_of HT_.out (by kernel_rfl)) (fun _ _ _ h => h) (Or.inl ⟨by rfl, ?_⟩) ?_ ?_
                   rotate_left
                   ·intro w'
                    go_simp
                    with_reducible rfl
                   rotate_left
                   ·simp only [Act.put, List.setIfInBounds_toArray, List.set_cons_zero, List.set_cons_succ, i64_w, i32_w]
                    rfl
                   refine pure_ (i := 7) (N := some 144) (v := ?_) (a' := ?_) #[false, true, true, true, false, true, true, true, false, false, false] rfl rfl (any_of HT_.out (by kernel_rfl)) (fun _ _ _ h => h) (Or.inl ⟨by rfl, ?_⟩) ?_ ?_
                   rotate_left
                   ·intro w'
                    go_simp
                    with_reducible rfl
                   rotate_left
                   ·simp only [Act.put, List.setIfInBounds_toArray, List.set_cons_zero, List.set_cons_succ, i64_w, i32_w]
                    rfl
                   refine pure_ (i := 8) (N := some 145) (v := ?_) (a' := ?_) #[false, true, true, true, false, true, true, true, true, false, false] rfl rfl (any_of HT_.out (by kernel_rfl)) (fun _ _ _ h => h) (Or.inl ⟨by rfl, ?_⟩) ?_ ?_
                   rotate_left
                   ·intro w'
                    go_simp
                    with_reducible rfl
                   rotate_left
                   ·simp only [Act.put, List.setIfInBounds_toArray, List.set_cons_zero, List.set_cons_succ, i64_w, i32_w]
                    rfl
                   refine one_ (i := 0) (N := some 137) #[true, true, true, true, false, true, true, true, true, false, false] rfl rfl (one_of HT_.out (by kernel_rfl)) (by decide) (fun K hK => ?_)
                   refine Kd.R_lit_step (Kd.int .i64) _ 3 ?hg (N := 137) ?hd (xs := ([] : List Int)) (inner := []) (ok := fun _ => True) (okp := fun _ => True) ?hr ?hp (fun _ hk => hk) trivial (Below.refl _ _) (Nat.le_refl _) (by simp) ?_; (case hd => rfl); (case hg => rfl); (case hr => first | (go_simp; done) | (go_simp; rfl)); (case hp => exact (Reps.none _ _))
                   intro v286 w104 ho105 hb hg_ hnew_
                   clear hg_ hnew_
                   (first | rw [← Ny285.out] at ho105 | (simp only [Int.reduceToNat] at ho105; rw [← Ny285.out] at ho105))
                   have n0_ := Aside0.mk (Kd.R_elder' (by (with_reducible repeat (first | apply Kd.R_alloc | apply Kd.R_drewN | apply Kd.R_drew)); exact HO_5.out) (Kd.R_base ho105) hb)
                   have n1_ := Aside0.mk (Kd.R_below (by (with_reducible repeat (first | apply Kd.R_alloc | apply Kd.R_drewN | apply Kd.R_drew)); exact HO_239000.out) hb)
                   have n2_ := Aside0.mk (Kd.Q_elder' (by (with_reducible repeat (first | apply Kd.Q_alloc | apply Kd.Q_drewN | apply Kd.Q_drew)); exact HO_239001.out) (Kd.R_base ho105) hb)
                   have n3_ := Aside0.mk (Kd.R_below (by (with_reducible repeat (first | apply Kd.R_alloc | apply Kd.R_drewN | apply Kd.R_drew)); exact HO275.out) hb)
                   have n4_ := Aside0.mk (Kd.R_elder' (by (with_reducible repeat (first | apply Kd.R_alloc | apply Kd.R_drewN | apply Kd.R_drew)); exact HO278.out) (Kd.R_base ho105) hb)
                   have n5_ := Aside0.mk (Kd.R_elder' (by (with_reducible repeat (first | apply Kd.R_alloc | apply Kd.R_drewN | apply Kd.R_drew)); exact HO284.out) (Kd.R_base ho105) hb)
                   have n6_ := Aside0.mk (Kd.R_lower (Kd.R_new' (Kd.R_new' (Kd.R_new' (Kd.R_new' ho105 (Kd.R_lt (by (with_reducible repeat (first | apply Kd.R_alloc | apply Kd.R_drewN | apply Kd.R_drew)); exact HO_5.out))) (Kd.Q_lt (by (with_reducible repeat (first | apply Kd.Q_alloc | apply Kd.Q_drewN | apply Kd.Q_drew)); exact HO_239001.out))) (Kd.R_lt (by (with_reducible repeat (first | apply Kd.R_alloc | apply Kd.R_drewN | apply Kd.R_drew)); exact HO278.out))) (Kd.R_lt (by (with_reducible repeat (first | apply Kd.R_alloc | apply Kd.R_drewN | apply Kd.R_drew)); exact HO284.out))) (below_size (by repeat (first | (with_reducible first | exact HB.out | apply below_alloc | apply pw_below_drewN | apply below_drew1 | refine below_set ?_ GE238.out | refine below_set ?_ GE280.out) | exact HB.out))))
                   have n7_ := Aside0.mk (blk_below (g := gb238) (o := .cells #[.slice Ao93 t273.length co93, .slice Ao95 t276.length co95] 29 (0, 0)) (by (with_reducible repeat (first | refine blk_drewN ?_ _ | refine blk_drew ?_ | refine blk_alloc ?_ _)); exact BK238.out) hb)
                   have n8_ := Aside0.mk (blk_below (g := gb280) (o := .cells #[.slice Ao93 t273.length co93, .slice Ao95 t276.length co95] 29 (0, 0)) (by (with_reducible repeat (first | refine blk_drewN ?_ _ | refine blk_drew ?_ | refine blk_alloc ?_ _)); exact BK280.out) hb)
                   have n9_ := Aside0.mk (Kd.C_below (by repeat (first | (with_reducible exact HR291.out) | (with_reducible refine Kd.C_alloc ?_ _) | (with_reducible refine Kd.C_drewN ?_ _) | (with_reducible refine Kd.C_drew ?_) | exact HR291.out)) hb)
                   have n10_ := Aside0.mk (Kd.C_below (by repeat (first | (with_reducible exact HR298.out) | (with_reducible refine Kd.C_alloc ?_ _) | (with_reducible refine Kd.C_drewN ?_ _) | (with_reducible refine Kd.C_drew ?_) | exact HR298.out)) hb)
                   have n11_ := Aside0.mk (below_step (by repeat (first | (with_reducible first | exact HB.out | apply below_alloc | apply pw_below_drewN | apply below_drew1 | refine below_set ?_ GE238.out | refine below_set ?_ GE280.out) | exact HB.out)) hb)
                   clear HO_5
                   clear HO_239000
                   clear HO_239001
                   clear HO275
                   clear HO278
                   clear HO284
                   clear BK238
                   clear BK280
                   clear HR291
                   clear HR298
                   clear HB
                   have HO_5 := n0_
                   have HO_239000 := n1_
                   have HO_239001 := n2_
                   have HO275 := n3_
                   have HO278 := n4_
                   have HO284 := n5_
                   have HO287 := n6_
                   have BK238 := n7_
                   have BK280 := n8_
                   have HR291 := n9_
                   have HR298 := n10_
                   have HB := n11_
                   clear n0_ n1_ n2_ n3_ n4_ n5_ n6_ n7_ n8_ n9_ n10_ n11_
                   clear hb ho105
                   refine hK.out _ _ trivial (fun hHeld => ?_)
                   clear hK K
                   refine norm_ (a' := ?_) ?_ ?_
                   rotate_left
                   ·show Act.put _ (some 137) _ = _
                    simp only [Act.put, List.setIfInBounds_toArray, List.set_cons_zero, List.set_cons_succ, i64_w, i32_w]
                    rfl
                   refine one_ (i := 4) (N := some 141) #[true, true, true, true, true, true, true, true, true, false, false] rfl rfl (one_of HT_.out (by kernel_rfl)) (by decide) (fun K hK => ?_)
                   refine Kd.R_append_rows_step (Kd.int .i64) (w0 := w) w.heap.size (by rfl) (.tmp 137) (.tmp 140) 27 3 (.int .i64 0) 8 rfl Tryd.underlying27 info3 rfl (by decide) (by omega) v286 y285 y288 _ _ _ (fun k_ => some k_ ≠ (.slice (some ad272) x5_1.length co86 : Value).ownBlock ∧ some k_ ≠ (.slice Ao88 x239001_1.length co88 : Value).ownBlock ∧ some k_ ≠ (.slice Ao95 t276.length co95 : Value).ownBlock ∧ some k_ ≠ (v283 : Value).ownBlock) (fun _ => False) rfl rfl ?aO ?aR (fun _ _ h => h) (fun _ h => h.elim) ?aF ?aB ?aS ?aL ?_
                   (case aR => repeat (first | exact (by repeat (first | (with_reducible exact HR291.out) | (with_reducible refine Kd.C_alloc ?_ _) | (with_reducible refine Kd.C_drewN ?_ _) | (with_reducible refine Kd.C_drew ?_) | exact HR291.out)) | (with_reducible refine Kd.C_alloc ?_ _) | (with_reducible refine Kd.C_drewN ?_ _) | (with_reducible refine Kd.C_drew ?_)))
                   (case aB => exact (by repeat (first | (with_reducible first | exact HB.out | apply below_alloc | apply pw_below_drewN | apply below_drew1 | refine below_set ?_ GE238.out | refine below_set ?_ GE280.out) | exact HB.out)))
                   (case aF => exact (fun k_ hk => ⟨Kd.fresh' (Kd.R_lt (by (with_reducible repeat (first | apply Kd.R_alloc | apply Kd.R_drewN | apply Kd.R_drew)); exact HO_5.out)) k_ hk, Kd.fresh' (Kd.Q_lt (by (with_reducible repeat (first | apply Kd.Q_alloc | apply Kd.Q_drewN | apply Kd.Q_drew)); exact HO_239001.out)) k_ hk, Kd.fresh' (Kd.R_lt (by (with_reducible repeat (first | apply Kd.R_alloc | apply Kd.R_drewN | apply Kd.R_drew)); exact HO278.out)) k_ hk, Kd.fresh' (Kd.R_lt (by (with_reducible repeat (first | apply Kd.R_alloc | apply Kd.R_drewN | apply Kd.R_drew)); exact HO284.out)) k_ hk⟩))
                   (case aO => exact (by (with_reducible repeat (first | apply Kd.R_alloc | apply Kd.R_drewN | apply Kd.R_drew)); exact Kd.R_mono HO287.out (fun _ hk => ⟨hk.1.1.1.2, ⟨hk.1.1.2, ⟨hk.1.2, hk.2⟩⟩⟩)))
                   (case aS => exact (below_size (by repeat (first | (with_reducible first | exact HB.out | apply below_alloc | apply pw_below_drewN | apply below_drew1 | refine below_set ?_ GE238.out | refine below_set ?_ GE280.out) | exact HB.out))))
                   (case aL => have := LMc81.out; omega)
                   intro v293 w106 ho hb hg hat
                   rw [← Ny292.out] at ho
                   have n0_ := Aside0.mk (Kd.R_after (ok := (fun k_ => some k_ ≠ (.slice Ao88 x239001_1.length co88 : Value).ownBlock ∧ some k_ ≠ (.slice Ao95 t276.length co95 : Value).ownBlock ∧ some k_ ≠ (v283 : Value).ownBlock)) (by (with_reducible repeat (first | apply Kd.R_alloc | apply Kd.R_drewN | apply Kd.R_drew)); exact Kd.R_mono HO_5.out (fun _ hk => ⟨⟨hk.1.1.1, ⟨hk.1.1.2, hk.1.2⟩⟩, hk.2⟩)) hg hat)
                   have n1_ := Aside0.mk (Kd.R_over' (by (with_reducible repeat (first | apply Kd.R_alloc | apply Kd.R_drewN | apply Kd.R_drew)); exact HO_239000.out) (Kd.R_typed (by (with_reducible repeat (first | apply Kd.R_alloc | apply Kd.R_drewN | apply Kd.R_drew)); exact HO287.out)) (by decide) hg)
                   have n2_ := Aside0.mk (Kd.Q_after (ok := (fun k_ => some k_ ≠ (.slice (some ad272) x5_1.length co86 : Value).ownBlock ∧ some k_ ≠ (.slice Ao95 t276.length co95 : Value).ownBlock ∧ some k_ ≠ (v283 : Value).ownBlock)) (by (with_reducible repeat (first | apply Kd.Q_alloc | apply Kd.Q_drewN | apply Kd.Q_drew)); exact Kd.Q_mono HO_239001.out (fun _ hk => ⟨⟨hk.1.1.1, ⟨hk.1.1.2, hk.1.2⟩⟩, hk.2⟩)) hg hat)
                   have n3_ := Aside0.mk (blk_grown (g := gb238) (o := .cells #[.slice Ao93 t273.length co93, .slice Ao95 t276.length co95] 29 (0, 0)) (by (with_reducible repeat (first | refine blk_drewN ?_ _ | refine blk_drew ?_ | refine blk_alloc ?_ _)); exact BK238.out) hg (Kd.R_ne HO287.out BK238.out (by decide)))
                   have n4_ := Aside0.mk (Kd.R_over' (by (with_reducible repeat (first | apply Kd.R_alloc | apply Kd.R_drewN | apply Kd.R_drew)); exact HO275.out) (Kd.R_typed (by (with_reducible repeat (first | apply Kd.R_alloc | apply Kd.R_drewN | apply Kd.R_drew)); exact HO287.out)) (by decide) hg)
                   have n5_ := Aside0.mk (Kd.R_after (ok := (fun k_ => some k_ ≠ (.slice (some ad272) x5_1.length co86 : Value).ownBlock ∧ some k_ ≠ (.slice Ao88 x239001_1.length co88 : Value).ownBlock ∧ some k_ ≠ (v283 : Value).ownBlock)) (by (with_reducible repeat (first | apply Kd.R_alloc | apply Kd.R_drewN | apply Kd.R_drew)); exact Kd.R_mono HO278.out (fun _ hk => ⟨⟨hk.1.1.1, ⟨hk.1.1.2, hk.1.2⟩⟩, hk.2⟩)) hg hat)
                   have n6_ := Aside0.mk (blk_grown (g := gb280) (o := .cells #[.slice Ao93 t273.length co93, .slice Ao95 t276.length co95] 29 (0, 0)) (by (with_reducible repeat (first | refine blk_drewN ?_ _ | refine blk_drew ?_ | refine blk_alloc ?_ _)); exact BK280.out) hg (Kd.R_ne HO287.out BK280.out (by decide)))
                   have n7_ := Aside0.mk (Kd.R_after (ok := (fun k_ => some k_ ≠ (.slice (some ad272) x5_1.length co86 : Value).ownBlock ∧ some k_ ≠ (.slice Ao88 x239001_1.length co88 : Value).ownBlock ∧ some k_ ≠ (.slice Ao95 t276.length co95 : Value).ownBlock)) (by (with_reducible repeat (first | apply Kd.R_alloc | apply Kd.R_drewN | apply Kd.R_drew)); exact HO284.out) hg hat)
                   have n8_ := Aside0.mk (hb)
                   have n9_ := Aside0.mk ((show Kd.C (Kd.int .i64) w106 (some ad272) y288.length y288 from by rw [Ny288.out]; exact Kd.C_take (m := ((ji73) : Int).toNat) ((Kd.R_reads' (Kd.R_after (ok := (fun k_ => some k_ ≠ (.slice Ao88 x239001_1.length co88 : Value).ownBlock ∧ some k_ ≠ (.slice Ao95 t276.length co95 : Value).ownBlock ∧ some k_ ≠ (v283 : Value).ownBlock)) (by (with_reducible repeat (first | apply Kd.R_alloc | apply Kd.R_drewN | apply Kd.R_drew)); exact Kd.R_mono HO_5.out (fun _ hk => ⟨⟨hk.1.1.1, ⟨hk.1.1.2, hk.1.2⟩⟩, hk.2⟩)) hg hat)).2.2) KL102.out))
                   have n10_ := Aside0.mk ((show Kd.C (Kd.int .i64) w106 A103 y295.length y295 from by rw [Ny295.out, KA103.out]; exact Kd.C_drop (m := ((ji82) : Int).toNat) (c := co86) ((Kd.R_reads' (Kd.R_after (ok := (fun k_ => some k_ ≠ (.slice Ao88 x239001_1.length co88 : Value).ownBlock ∧ some k_ ≠ (.slice Ao95 t276.length co95 : Value).ownBlock ∧ some k_ ≠ (v283 : Value).ownBlock)) (by (with_reducible repeat (first | apply Kd.R_alloc | apply Kd.R_drewN | apply Kd.R_drew)); exact Kd.R_mono HO_5.out (fun _ hk => ⟨⟨hk.1.1.1, ⟨hk.1.1.2, hk.1.2⟩⟩, hk.2⟩)) hg hat)).2.2) KL103.out ((Kd.R_reads' (Kd.R_after (ok := (fun k_ => some k_ ≠ (.slice Ao88 x239001_1.length co88 : Value).ownBlock ∧ some k_ ≠ (.slice Ao95 t276.length co95 : Value).ownBlock ∧ some k_ ≠ (v283 : Value).ownBlock)) (by (with_reducible repeat (first | apply Kd.R_alloc | apply Kd.R_drewN | apply Kd.R_drew)); exact Kd.R_mono HO_5.out (fun _ hk => ⟨⟨hk.1.1.1, ⟨hk.1.1.2, hk.1.2⟩⟩, hk.2⟩)) hg hat)).2.1)))
                   have n11_ := Aside0.mk (ho)
                   clear HO_5
                   clear HO_239000
                   clear HO_239001
                   clear BK238
                   clear HO275
                   clear HO278
                   clear BK280
                   clear HO284
                   clear HB
                   clear HR291
                   clear HR298
                   clear HO287
                   have HO_5 := n0_
                   have HO_239000 := n1_
                   have HO_239001 := n2_
                   have BK238 := n3_
                   have HO275 := n4_
                   have HO278 := n5_
                   have BK280 := n6_
                   have HO284 := n7_
                   have HB := n8_
                   have HR291 := n9_
                   have HR298 := n10_
                   have HO294 := n11_
                   clear n0_ n1_ n2_ n3_ n4_ n5_ n6_ n7_ n8_ n9_ n10_ n11_
                   clear ho hb hg hat
                   refine hK.out _ _ trivial (fun hHeld => ?_)
                   clear hK K
                   refine norm_ (a' := ?_) ?_ ?_
                   rotate_left
                   ·show Act.put _ (some 141) _ = _
                    simp only [Act.put, List.setIfInBounds_toArray, List.set_cons_zero, List.set_cons_succ, i64_w, i32_w]
                    rfl
                   refine one_ (i := 9) (N := some 146) #[true, true, true, true, true, true, true, true, true, true, false] rfl rfl (one_of HT_.out (by kernel_rfl)) (by decide) (fun K hK => ?_)
                   refine Kd.R_append_rows_step (Kd.int .i64) (w0 := w) w.heap.size (by rfl) (.tmp 141) (.tmp 145) 27 3 (.int .i64 0) 8 rfl Tryd.underlying27 info3 rfl (by decide) (by omega) v293 y292 y295 _ _ _ (fun k_ => some k_ ≠ (.slice (some ad272) x5_1.length co86 : Value).ownBlock ∧ some k_ ≠ (.slice Ao88 x239001_1.length co88 : Value).ownBlock ∧ some k_ ≠ (.slice Ao95 t276.length co95 : Value).ownBlock ∧ some k_ ≠ (v283 : Value).ownBlock) (fun _ => False) rfl rfl ?aO ?aR (fun _ _ h => h) (fun _ h => h.elim) ?aF ?aB ?aS ?aL ?_
                   (case aR => repeat (first | exact (by repeat (first | (with_reducible exact HR298.out) | (with_reducible refine Kd.C_alloc ?_ _) | (with_reducible refine Kd.C_drewN ?_ _) | (with_reducible refine Kd.C_drew ?_) | exact HR298.out)) | (with_reducible refine Kd.C_alloc ?_ _) | (with_reducible refine Kd.C_drewN ?_ _) | (with_reducible refine Kd.C_drew ?_)))
                   (case aB => exact (by repeat (first | (with_reducible first | exact HB.out | apply below_alloc | apply pw_below_drewN | apply below_drew1 | refine below_set ?_ GE238.out | refine below_set ?_ GE280.out) | exact HB.out)))
                   (case aF => exact (fun k_ hk => ⟨Kd.fresh' (Kd.R_lt (by (with_reducible repeat (first | apply Kd.R_alloc | apply Kd.R_drewN | apply Kd.R_drew)); exact HO_5.out)) k_ hk, Kd.fresh' (Kd.Q_lt (by (with_reducible repeat (first | apply Kd.Q_alloc | apply Kd.Q_drewN | apply Kd.Q_drew)); exact HO_239001.out)) k_ hk, Kd.fresh' (Kd.R_lt (by (with_reducible repeat (first | apply Kd.R_alloc | apply Kd.R_drewN | apply Kd.R_drew)); exact HO278.out)) k_ hk, Kd.fresh' (Kd.R_lt (by (with_reducible repeat (first | apply Kd.R_alloc | apply Kd.R_drewN | apply Kd.R_drew)); exact HO284.out)) k_ hk⟩))
                   (case aO => exact (by (with_reducible repeat (first | apply Kd.R_alloc | apply Kd.R_drewN | apply Kd.R_drew)); exact HO294.out))
                   (case aS => exact (below_size (by repeat (first | (with_reducible first | exact HB.out | apply below_alloc | apply pw_below_drewN | apply below_drew1 | refine below_set ?_ GE238.out | refine below_set ?_ GE280.out) | exact HB.out))))
                   (case aL => have := LMc85.out; omega)
                   intro v300 w107 ho hb hg hat
                   rw [← Ny299.out] at ho
                   have n0_ := Aside0.mk (Kd.R_after (ok := (fun k_ => some k_ ≠ (.slice Ao88 x239001_1.length co88 : Value).ownBlock ∧ some k_ ≠ (.slice Ao95 t276.length co95 : Value).ownBlock ∧ some k_ ≠ (v283 : Value).ownBlock)) (by (with_reducible repeat (first | apply Kd.R_alloc | apply Kd.R_drewN | apply Kd.R_drew)); exact HO_5.out) hg hat)
                   have n1_ := Aside0.mk (Kd.R_over' (by (with_reducible repeat (first | apply Kd.R_alloc | apply Kd.R_drewN | apply Kd.R_drew)); exact HO_239000.out) (Kd.R_typed (by (with_reducible repeat (first | apply Kd.R_alloc | apply Kd.R_drewN | apply Kd.R_drew)); exact HO294.out)) (by decide) hg)
                   have n2_ := Aside0.mk (Kd.Q_after (ok := (fun k_ => some k_ ≠ (.slice (some ad272) x5_1.length co86 : Value).ownBlock ∧ some k_ ≠ (.slice Ao95 t276.length co95 : Value).ownBlock ∧ some k_ ≠ (v283 : Value).ownBlock)) (by (with_reducible repeat (first | apply Kd.Q_alloc | apply Kd.Q_drewN | apply Kd.Q_drew)); exact HO_239001.out) hg hat)
                   have n3_ := Aside0.mk (blk_grown (g := gb238) (o := .cells #[.slice Ao93 t273.length co93, .slice Ao95 t276.length co95] 29 (0, 0)) (by (with_reducible repeat (first | refine blk_drewN ?_ _ | refine blk_drew ?_ | refine blk_alloc ?_ _)); exact BK238.out) hg (Kd.R_ne HO294.out BK238.out (by decide)))
                   have n4_ := Aside0.mk (Kd.R_over' (by (with_reducible repeat (first | apply Kd.R_alloc | apply Kd.R_drewN | apply Kd.R_drew)); exact HO275.out) (Kd.R_typed (by (with_reducible repeat (first | apply Kd.R_alloc | apply Kd.R_drewN | apply Kd.R_drew)); exact HO294.out)) (by decide) hg)
                   have n5_ := Aside0.mk (Kd.R_after (ok := (fun k_ => some k_ ≠ (.slice (some ad272) x5_1.length co86 : Value).ownBlock ∧ some k_ ≠ (.slice Ao88 x239001_1.length co88 : Value).ownBlock ∧ some k_ ≠ (v283 : Value).ownBlock)) (by (with_reducible repeat (first | apply Kd.R_alloc | apply Kd.R_drewN | apply Kd.R_drew)); exact HO278.out) hg hat)
                   have n6_ := Aside0.mk (blk_grown (g := gb280) (o := .cells #[.slice Ao93 t273.length co93, .slice Ao95 t276.length co95] 29 (0, 0)) (by (with_reducible repeat (first | refine blk_drewN ?_ _ | refine blk_drew ?_ | refine blk_alloc ?_ _)); exact BK280.out) hg (Kd.R_ne HO294.out BK280.out (by decide)))
                   have n7_ := Aside0.mk (Kd.R_after (ok := (fun k_ => some k_ ≠ (.slice (some ad272) x5_1.length co86 : Value).ownBlock ∧ some k_ ≠ (.slice Ao88 x239001_1.length co88 : Value).ownBlock ∧ some k_ ≠ (.slice Ao95 t276.length co95 : Value).ownBlock)) (by (with_reducible repeat (first | apply Kd.R_alloc | apply Kd.R_drewN | apply Kd.R_drew)); exact HO284.out) hg hat)
                   have n8_ := Aside0.mk (hb)
                   have n9_ := Aside0.mk ((show Kd.C (Kd.int .i64) w107 (some ad272) y288.length y288 from by rw [Ny288.out]; exact Kd.C_take (m := ((ji73) : Int).toNat) ((Kd.R_reads' (Kd.R_after (ok := (fun k_ => some k_ ≠ (.slice Ao88 x239001_1.length co88 : Value).ownBlock ∧ some k_ ≠ (.slice Ao95 t276.length co95 : Value).ownBlock ∧ some k_ ≠ (v283 : Value).ownBlock)) (by (with_reducible repeat (first | apply Kd.R_alloc | apply Kd.R_drewN | apply Kd.R_drew)); exact HO_5.out) hg hat)).2.2) KL102.out))
                   have n10_ := Aside0.mk ((show Kd.C (Kd.int .i64) w107 A103 y295.length y295 from by rw [Ny295.out, KA103.out]; exact Kd.C_drop (m := ((ji82) : Int).toNat) (c := co86) ((Kd.R_reads' (Kd.R_after (ok := (fun k_ => some k_ ≠ (.slice Ao88 x239001_1.length co88 : Value).ownBlock ∧ some k_ ≠ (.slice Ao95 t276.length co95 : Value).ownBlock ∧ some k_ ≠ (v283 : Value).ownBlock)) (by (with_reducible repeat (first | apply Kd.R_alloc | apply Kd.R_drewN | apply Kd.R_drew)); exact HO_5.out) hg hat)).2.2) KL103.out ((Kd.R_reads' (Kd.R_after (ok := (fun k_ => some k_ ≠ (.slice Ao88 x239001_1.length co88 : Value).ownBlock ∧ some k_ ≠ (.slice Ao95 t276.length co95 : Value).ownBlock ∧ some k_ ≠ (v283 : Value).ownBlock)) (by (with_reducible repeat (first | apply Kd.R_alloc | apply Kd.R_drewN | apply Kd.R_drew)); exact HO_5.out) hg hat)).2.1)))
                   have n11_ := Aside0.mk (ho)
                   clear HO_5
                   clear HO_239000
                   clear HO_239001
                   clear BK238
                   clear HO275
                   clear HO278
                   clear BK280
                   clear HO284
                   clear HB
                   clear HR291
                   clear HR298
                   clear HO294
                   have HO_5 := n0_
                   have HO_239000 := n1_
                   have HO_239001 := n2_
                   have BK238 := n3_
                   have HO275 := n4_
                   have HO278 := n5_
                   have BK280 := n6_
                   have HO284 := n7_
                   have HB := n8_
                   have HR291 := n9_
                   have HR298 := n10_
                   have HO301 := n11_
                   clear n0_ n1_ n2_ n3_ n4_ n5_ n6_ n7_ n8_ n9_ n10_ n11_
                   clear ho hb hg hat
                   refine hK.out _ _ trivial (fun hHeld => ?_)
                   clear hK K
                   refine norm_ (a' := ?_) ?_ ?_
                   rotate_left
                   ·show Act.put _ (some 146) _ = _
                    simp only [Act.put, List.setIfInBounds_toArray, List.set_cons_zero, List.set_cons_succ, i64_w, i32_w]
                    rfl
                   refine pure_ (i := 10) (N := some 5) (v := ?_) (a' := ?_) #[true, true, true, true, true, true, true, true, true, true, true] rfl rfl (any_of HT_.out (by kernel_rfl)) (fun _ _ _ h => h) (Or.inl ⟨by rfl, ?_⟩) ?_ ?_
                   rotate_left
                   ·intro w'
                    go_simp
                    with_reducible rfl
                   rotate_left
                   ·simp only [Act.put, List.setIfInBounds_toArray, List.set_cons_zero, List.set_cons_succ, i64_w, i32_w]
                    rfl
                   refine done_ (done_of HT_.out (by kernel_rfl)) ?_
                   try go_wp2
                   go_meet
                   case rel => exact ⟨_, (y299), (y282), (t273), (t276), (.slice Ao93 t273.length co93), (.slice Ao95 t276.length co95), H', ⟨by have := HK1.out; first | omega | exact Nat.le_refl _⟩, ⟨by (with_reducible repeat (first | apply Kd.R_alloc | apply Kd.R_drewN | apply Kd.R_drew)); exact Kd.R_mono HO301.out (fun _ hk => ⟨hk.2.2.2, hk.2.2.1⟩)⟩, ⟨by (with_reducible repeat (first | apply Kd.R_alloc | apply Kd.R_drewN | apply Kd.R_drew)); exact Kd.R_mono HO284.out (fun _ hk => ⟨hk.2, hk.1.2.2⟩)⟩, ⟨by (with_reducible repeat (first | apply Kd.R_alloc | apply Kd.R_drewN | apply Kd.R_drew)); exact Kd.R_mono HO275.out (fun _ hk => trivial)⟩, ⟨Kd.Q_of_R (by (with_reducible repeat (first | apply Kd.R_alloc | apply Kd.R_drewN | apply Kd.R_drew)); exact Kd.R_mono HO278.out (fun _ hk => ⟨hk.2, hk.1.2.2⟩))⟩, ⟨by (with_reducible repeat (first | refine blk_drewN ?_ _ | refine blk_drew ?_ | refine blk_alloc ?_ _)); exact BK238.out⟩, ⟨by repeat (first | (with_reducible first | exact HB.out | apply below_alloc | apply pw_below_drewN | apply below_drew1 | refine below_set ?_ GE238.out | refine below_set ?_ GE280.out) | exact HB.out)⟩⟩
                  ·rw [if_neg c85] at H
                   exact absurd H (by simp)
                 ·rw [if_neg c84] at H
                  exact absurd H (by simp)
                ·rw [if_neg c83] at H
                 exact absurd H (by simp)
               ·rw [if_neg c81] at H
                exact absurd H (by simp)
              ·rw [if_neg c80] at H
               exact absurd H (by simp)
             ·rw [if_neg c78] at H
              exact absurd H (by simp)
            ·replace c77 := Bool.eq_false_iff.mpr c77
             subst c77
             have H1 : (some false) = some true := by rw [if_neg (show ¬ (false = true) by decide)] at H; exact H
             clear H
             have H := H1
             clear H1
             exact absurd H (by first | (simp; done) | ((repeat' split) <;> simp))
           ·rw [if_neg c75] at H
            exact absurd H (by simp)
          ·rw [if_neg c74] at H
           exact absurd H (by simp)
        ·rw [if_neg c70] at H
         have c70b0 : decide (0 < (x5_1.length : Int)) = false := decide_eq_false c70
         have c70b1 : decide (0 < x5_1.length) = false := decide_eq_false (by omega)
         clear c70
         have H' := Aside0.mk H
         clear H
         obtain ⟨Ao108, co108, eo108⟩ := Kd.R_slice HO_5.out
         subst eo108
         go_wp2
         go_meet
         case rel => exact ⟨_, (x5_1), (x6_1), (x239000_1), (x239001_1), (u239000), (u239001), H', ⟨by have := HK1.out; first | omega | exact Nat.le_refl _⟩, ⟨by (with_reducible repeat (first | apply Kd.R_alloc | apply Kd.R_drewN | apply Kd.R_drew)); exact HO_5.out⟩, ⟨by (with_reducible repeat (first | apply Kd.R_alloc | apply Kd.R_drewN | apply Kd.R_drew)); exact HO_6.out⟩, ⟨by (with_reducible repeat (first | apply Kd.R_alloc | apply Kd.R_drewN | apply Kd.R_drew)); exact HO_239000.out⟩, ⟨by (with_reducible repeat (first | apply Kd.Q_alloc | apply Kd.Q_drewN | apply Kd.Q_drew)); exact HO_239001.out⟩, ⟨by (with_reducible repeat (first | refine blk_drewN ?_ _ | refine blk_drew ?_ | refine blk_alloc ?_ _)); exact BK238.out⟩, ⟨by repeat (first | (with_reducible first | exact HB.out | apply below_alloc | apply pw_below_drewN | apply below_drew1 | refine below_set ?_ GE238.out) | exact HB.out)⟩⟩
      case rest =>
       clear HC18
       (try clear c1); (try clear q1); (try clear p2); (try clear q2); (try clear hx2); (try clear c7); (try clear c8); (try clear c9); (try clear c10); (try clear q10); (try clear c15); (try clear p28); (try clear q28); (try clear hx28); (try clear c70); (try clear c70b0); (try clear c70b1); (try clear c74); (try clear c75); (try clear c77); (try clear c78); (try clear c80); (try clear c81); (try clear c83); (try clear c84); (try clear c85); (try clear c97); (try clear q102); (try clear c103); (try clear q103); (try clear hcz98_0 hcz98_1); (try clear hcz99_0 hcz99_1); (try clear hfz98_0 hfz98_1); (try clear hfz99_0 hfz99_1); (try clear hx281_0); (try clear p281); (try clear q0103); (try clear q102); (try clear q103); (try clear q281)
       obtain ⟨kq, x5_17, x6_17, x239000_17, x239001_17, u239000, u239001, HA, HJ17, HO_5, HO_6, HO_239000, HO_239001, BK238, HB⟩ := hcut
       cases kq with
       | zero => exact absurd HA.out (by simp [laws_FnHandles.j2])
       | succ kj17 =>
        have H := HA.out
        clear HA
        simp only [laws_FnHandles.j2] at H
        have H' := Aside0.mk H
        clear H
        go_wp2
        go_loopg [18] kj17 (fun kq v18 w' => ∃ (x18_3 : Int), v18 = .int .i64 x18_3 ∧ Aside0 (laws_FnHandles.l1 kq l0 x5_17 x6_17 x7_1 x18_3 x239000_17 x239001_17 = some true) ∧ Aside0 (kq ≤ kj17) ∧ Aside0 (Kd.R (Kd.int .i64) 3 w' w.heap.size (fun k_ => some k_ ≠ (u6 : Value).ownBlock ∧ some k_ ≠ (u239001 : Value).ownBlock) u5 x5_17) ∧ Aside0 (Kd.R (Kd.int .i64) 3 w' w.heap.size (fun k_ => some k_ ≠ (u5 : Value).ownBlock ∧ some k_ ≠ (u239001 : Value).ownBlock) u6 x6_17) ∧ Aside0 (Kd.R k46 46 w' w.heap.size (fun _ => True) u239000 x239000_17) ∧ Aside0 (Kd.Q (Kd.int .i64) 3 w' w.heap.size (fun k_ => some k_ ≠ (u5 : Value).ownBlock ∧ some k_ ≠ (u6 : Value).ownBlock) u239001 x239001_17) ∧ Aside0 (w'.heap[gb238]? = some (.cells #[u239000, u239001] 29 (0, 0))) ∧ Aside0 (Below w.heap.size w w'))
        case atStart => exact ⟨(0), (by first | rfl | (simp; done) | (simp [*]; done)), H', ⟨Nat.le_refl _⟩, ⟨by (with_reducible repeat (first | apply Kd.R_alloc | apply Kd.R_drewN | apply Kd.R_drew)); exact HO_5.out⟩, ⟨by (with_reducible repeat (first | apply Kd.R_alloc | apply Kd.R_drewN | apply Kd.R_drew)); exact HO_6.out⟩, ⟨by (with_reducible repeat (first | apply Kd.R_alloc | apply Kd.R_drewN | apply Kd.R_drew)); exact HO_239000.out⟩, ⟨by (with_reducible repeat (first | apply Kd.Q_alloc | apply Kd.Q_drewN | apply Kd.Q_drew)); exact HO_239001.out⟩, ⟨by (with_reducible repeat (first | refine blk_drewN ?_ _ | refine blk_drew ?_ | refine blk_alloc ?_ _)); exact BK238.out⟩, ⟨by repeat (first | (with_reducible first | exact HB.out | apply below_alloc | apply pw_below_drewN | apply below_drew1 | refine below_set ?_ GE238.out) | exact HB.out)⟩⟩
        case round =>
         clear H'
         (try clear c1); (try clear q1); (try clear p2); (try clear q2); (try clear hx2); (try clear c7); (try clear c8); (try clear c9); (try clear c10); (try clear q10); (try clear c15); (try clear p28); (try clear q28); (try clear hx28); (try clear c70); (try clear c70b0); (try clear c70b1); (try clear c74); (try clear c75); (try clear c77); (try clear c78); (try clear c80); (try clear c81); (try clear c83); (try clear c84); (try clear c85); (try clear c97); (try clear q102); (try clear c103); (try clear q103); (try clear hcz98_0 hcz98_1); (try clear hcz99_0 hcz99_1); (try clear hfz98_0 hfz98_1); (try clear hfz99_0 hfz99_1); (try clear hx281_0); (try clear p2); (try clear p28); (try clear p281); (try clear q0103); (try clear q1); (try clear q10); (try clear q102); (try clear q103); (try clear q2); (try clear q28); (try clear q281)
         obtain ⟨x18_3, rfl, HA, HK3, HO_5, HO_6, HO_239000, HO_239001, BK238, HB⟩ := hrel
         cases gk with
         | zero => exact absurd HA.out (by simp [laws_FnHandles.l1])
         | succ k3 =>
          have H := HA.out
          clear HA
          simp only [laws_FnHandles.l1] at H
          by_cases c109 : x18_3 < (x6_17.length : Int)
          ·rw [if_pos c109] at H
           have c109b0 : decide (x18_3 < (x6_17.length : Int)) = true := decide_eq_true c109
           clear c109
           by_cases c110 : 0 ≤ x18_3
           ·rw [if_pos c110] at H
            have c110b0 : decide (0 ≤ x18_3) = true := decide_eq_true c110
            clear c110
            replace H := Option.bind_eq_some_iff.mp H
            obtain ⟨t303, A1110, H⟩ := H
            replace H : (if t303 = true then (some false) else ((impl_HandleText.f k3 (rd x6_17 x18_3)).bind fun t305 => (if t305.toList = ([] : List UInt8) then (some false) else (laws_FnHandles.l1 k3 l0 x5_17 x6_17 x7_1 (wrap64 (x18_3 + 1)) x239000_17 x239001_17)))) = some true := H
            have A111 := Aside0.mk A1110
            clear A1110
            by_cases c112 : t303 = true
            ·subst c112
             have H1 : (some false) = some true := by rw [if_pos rfl] at H; exact H
             clear H
             have H := H1
             clear H1
             exact absurd H (by first | (simp; done) | ((repeat' split) <;> simp))
            ·replace c112 := Bool.eq_false_iff.mpr c112
             subst c112
             have H1 : ((impl_HandleText.f k3 (rd x6_17 x18_3)).bind fun t305 => (if t305.toList = ([] : List UInt8) then (some false) else (laws_FnHandles.l1 k3 l0 x5_17 x6_17 x7_1 (wrap64 (x18_3 + 1)) x239000_17 x239001_17))) = some true := by rw [if_neg (show ¬ (false = true) by decide)] at H; exact H
             clear H
             have H := H1
             clear H1
             replace H := Option.bind_eq_some_iff.mp H
             obtain ⟨t305, A1130, H⟩ := H
             replace H : (if t305.toList = ([] : List UInt8) then (some false) else (laws_FnHandles.l1 k3 l0 x5_17 x6_17 x7_1 (wrap64 (x18_3 + 1)) x239000_17 x239001_17)) = some true := H
             have A113 := Aside0.mk A1130
             clear A1130
             by_cases c114 : t305.toList = ([] : List UInt8)
             ·rw [if_pos c114] at H
              have c114b0 : (t305.toList == ([] : List UInt8)) = true := beq_iff_eq.mpr c114
              have c114b1 : (t305.toList != ([] : List UInt8)) = false := bne_eq_false_iff_eq.mpr c114
              clear c114
              exact absurd H (by first | (simp; done) | ((repeat' split) <;> simp))
             ·rw [if_neg c114] at H
              have c114b0 : (t305.toList == ([] : List UInt8)) = false := beq_eq_false_iff_ne.mpr c114
              have c114b1 : (t305.toList != ([] : List UInt8)) = true := bne_iff_ne.mpr c114
              have H' := Aside0.mk H
              clear H
              obtain ⟨Ao115, co115, eo115⟩ := Kd.R_slice HO_6.out
              subst eo115
              try go_wp2
              have n0_ := Aside0.mk (Kd.R_drew HO_5.out)
              have n1_ := Aside0.mk (Kd.R_drew HO_6.out)
              have n2_ := Aside0.mk (Kd.R_drew HO_239000.out)
              have n3_ := Aside0.mk (Kd.Q_drew HO_239001.out)
              have n4_ := Aside0.mk (blk_drew BK238.out)
              have n5_ := Aside0.mk (below_drew1 HB.out)
              clear HO_5
              clear HO_6
              clear HO_239000
              clear HO_239001
              clear BK238
              clear HB
              have HO_5 := n0_
              have HO_6 := n1_
              have HO_239000 := n2_
              have HO_239001 := n3_
              have BK238 := n4_
              have HB := n5_
              clear n0_ n1_ n2_ n3_ n4_ n5_
              have p302 : 0 ≤ (x18_3 : Int) := of_decide_eq_true (by first | (with_reducible assumption) | assumption)
              have q302 : x18_3 < (x6_17.length : Int) := of_decide_eq_true (by first | (with_reducible assumption) | assumption)
              obtain ⟨ad302, e302, hx302_0⟩ := Kd.at_int (Kd.R_reads' HO_6.out).2.2 x18_3 p302 q302
              cases e302
              replace p302 := eq_true p302
              replace q302 := eq_true q302
              obtain ⟨Ao117, co117, eo117⟩ := Kd.R_slice HO_239000.out
              (first | subst eo117 | (injection eo117 with f1_ f2_ f3_; have f4_ := f1_.symm; have f5_ := f3_.symm; clear f1_ f2_ f3_; subst f4_; subst f5_))
              obtain ⟨Ao118, co118, eo118, _⟩ := Kd.Q_slice HO_239001.out
              (first | subst eo118 | (injection eo118 with f1_ f2_ f3_; have f4_ := f1_.symm; have f5_ := f3_.symm; clear f1_ f2_ f3_; subst f4_; subst f5_))
              have p304 : 0 ≤ (x18_3 : Int) := of_decide_eq_true (by first | (with_reducible assumption) | assumption)
              have q304 : x18_3 < (x6_17.length : Int) := of_decide_eq_true (by first | (with_reducible assumption) | assumption)
              obtain ⟨ad304, e304, hx304_0⟩ := Kd.at_int (Kd.R_reads' HO_6.out).2.2 x18_3 p304 q304
              obtain rfl : ad302 = ad304 := (by injection e304)
              replace p304 := eq_true p304
              replace q304 := eq_true q304
              refine start_ (n := 14) (S := fun w' => w'.cell? ⟨gb238, 0, none⟩ = some (.slice Ao117 x239000_17.length co117) ∧ w'.cell? ⟨gb238, 1, none⟩ = some (.slice Ao118 x239001_17.length co118) ∧ w'.cell? (ad302.add (x18_3).toNat) = some (.int .i64 (rd x6_17 x18_3)) ∧ w'.cell? (ad302.add (x18_3).toNat) = some (.int .i64 (rd x6_17 x18_3))) (ds := []) #[false, false, false, false, false, false, false, false, false, false, false, false, false, false] (by kernel_rfl) rfl rfl ⟨(blk_cell BK238.out 0).trans rfl, (blk_cell BK238.out 1).trans rfl, hx302_0, hx304_0⟩ (fun hHeld => ?_); refine with_tabW laws_FnHandles.tab32 laws_FnHandles.bits32 (fun HT_ HW_ => ?_)
              generalize wr.drew = w116 at HO_5 HO_6 HO_239000 HO_239001 BK238 HB hx302_0 hx304_0 hHeld ⊢
              refine pure_ (i := 1) (N := some 154) (v := ?_) (a' := ?_) #[false, true, false, false, false, false, false, false, false, false, false, false, false, false] rfl rfl (any_of HT_.out (by kernel_rfl)) (fun _ _ _ h => h) (Or.inl ⟨by rfl, ?_⟩) ?_ ?_
              rotate_left
              ·intro w'
               go_simp
               with_reducible rfl
              rotate_left
              ·simp only [Act.put, List.setIfInBounds_toArray, List.set_cons_zero, List.set_cons_succ, i64_w, i32_w]
               rfl
              refine pure_ (i := 2) (N := some 155) (v := ?_) (a' := ?_) #[false, true, true, false, false, false, false, false, false, false, false, false, false, false] rfl rfl (any_of HT_.out (by kernel_rfl)) (fun _ _ _ h => h) (Or.inl ⟨by rfl, ?_⟩) ?_ ?_
              rotate_left
              ·intro w'
               go_simp
               with_reducible rfl
              rotate_left
              ·simp only [Act.put, List.setIfInBounds_toArray, List.set_cons_zero, List.set_cons_succ, i64_w, i32_w]
               rfl
              refine pure_ (i := 3) (N := some 156) (v := ?_) (a' := ?_) #[false, true, true, true, false, false, false, false, false, false, false, false, false, false] rfl rfl (any_of HT_.out (by kernel_rfl)) (fun _ _ _ h => h) (Or.inl ⟨by rfl, ?_⟩) ?_ ?_
              rotate_left
              ·intro w'
               go_simp
               with_reducible rfl
              rotate_left
              ·simp only [Act.put, List.setIfInBounds_toArray, List.set_cons_zero, List.set_cons_succ, i64_w, i32_w]
               rfl
              refine take_ (i := 0) (N := some 153) (v := ?_) (a' := ?_) #[true, true, true, true, false, false, false, false, false, false, false, false, false, false] rfl rfl (take_ofW HT_.out HW_.out (by kernel_rfl)) (fun _ _ _ h => h) (Or.inl ⟨by rfl, ?_⟩) hHeld ?_ ?_
              rotate_left
              ·rintro w' ⟨s0, s1, s2, s3⟩
               go_simp
               with_reducible rfl
              rotate_left
              ·simp only [Act.put, List.setIfInBounds_toArray, List.set_cons_zero, List.set_cons_succ, i64_w, i32_w]
               rfl
              refine take_ (i := 4) (N := some 157) (v := ?_) (a' := ?_) #[true, true, true, true, true, false, false, false, false, false, false, false, false, false] rfl rfl (take_ofW HT_.out HW_.out (by kernel_rfl)) (fun _ _ _ h => h) (Or.inl ⟨by rfl, ?_⟩) hHeld ?_ ?_
              rotate_left
              ·rintro w' ⟨s0, s1, s2, s3⟩
               go_simp
               with_reducible rfl
              rotate_left
              ·simp only [Act.put, List.setIfInBounds_toArray, List.set_cons_zero, List.set_cons_succ, i64_w, i32_w]
               rfl
              refine one_ (i := 5) (N := some 158) #[true, true, true, true, true, true, false, false, false, false, false, false, false, false] rfl rfl (one_of HT_.out (by kernel_rfl)) (by decide) (fun K hK => ?_)
              refine goes_ Tryd.func11 (by kernel_rfl) rfl #[.agg #[.slice Ao117 x239000_17.length co117, .slice Ao118 x239001_17.length co118], .int .i64 (rd x6_17 x18_3)] (by rfl) rfl rfl (by (try simp only [List.map_toArray, List.map_cons, List.map_nil]); first | done | rfl | (simp only [List.length_drop, List.length_take]; rfl)) ?_
              with_reducible refine (impl_Live.calls k3 _ _ x239000_17 _ _ x239001_17 (rd x6_17 x18_3) false _ ?side1 ?side2 ?side3 ?side4 A111.out).mono ?_
              (case side1 => repeat (first | exact (Kd.R_reads' HO_239000.out).2.2 | (with_reducible refine Kd.C_alloc ?_ _) | (with_reducible refine Kd.C_drewN ?_ _) | (with_reducible refine Kd.C_drew ?_)))
              (case side2 => exact (Kd.R_reads' HO_239000.out).2.1)
              (case side3 => repeat (first | exact (Kd.Q_reads' HO_239001.out).2.2 | (with_reducible refine Kd.C_alloc ?_ _) | (with_reducible refine Kd.C_drewN ?_ _) | (with_reducible refine Kd.C_drew ?_)))
              (case side4 => exact (Kd.Q_reads' HO_239001.out).2.1)
              rintro e w119 ⟨rfl, hb⟩
              have HS2_ := (hb.cell (World.block_lt_of_cell? _ _ (hHeld.2.2.1))).trans (hHeld.2.2.1)
              have HS3_ := (hb.cell (World.block_lt_of_cell? _ _ (hHeld.2.2.2))).trans (hHeld.2.2.2)
              refine ⟨_, rfl, ?_⟩
              have n0_ := Aside0.mk (Kd.R_below (by (with_reducible repeat (first | apply Kd.R_alloc | apply Kd.R_drewN | apply Kd.R_drew)); exact HO_5.out) hb)
              have n1_ := Aside0.mk (Kd.R_below (by (with_reducible repeat (first | apply Kd.R_alloc | apply Kd.R_drewN | apply Kd.R_drew)); exact HO_6.out) hb)
              have n2_ := Aside0.mk (Kd.R_below (by (with_reducible repeat (first | apply Kd.R_alloc | apply Kd.R_drewN | apply Kd.R_drew)); exact HO_239000.out) hb)
              have n3_ := Aside0.mk (Kd.Q_below (by (with_reducible repeat (first | apply Kd.Q_alloc | apply Kd.Q_drewN | apply Kd.Q_drew)); exact HO_239001.out) hb)
              have n4_ := Aside0.mk (blk_below (g := gb238) (o := .cells #[.slice Ao117 x239000_17.length co117, .slice Ao118 x239001_17.length co118] 29 (0, 0)) (by (with_reducible repeat (first | refine blk_drewN ?_ _ | refine blk_drew ?_ | refine blk_alloc ?_ _)); exact BK238.out) hb)
              have n5_ := Aside0.mk (below_step (by repeat (first | (with_reducible first | exact HB.out | apply below_alloc | apply pw_below_drewN | apply below_drew1 | refine below_set ?_ GE238.out) | exact HB.out)) hb)
              clear HO_5
              clear HO_6
              clear HO_239000
              clear HO_239001
              clear BK238
              clear HB
              have HO_5 := n0_
              have HO_6 := n1_
              have HO_239000 := n2_
              have HO_239001 := n3_
              have BK238 := n4_
              have HB := n5_
              clear n0_ n1_ n2_ n3_ n4_ n5_
              (try clear hb)
              (try clear hb2)
              (try clear hk)
              (try clear hi)
              refine hK.out _ _ ⟨(blk_cell BK238.out 0).trans rfl, (blk_cell BK238.out 1).trans rfl, HS2_, HS3_⟩ (fun hHeld => ?_)
              clear hK K
              refine norm_ (a' := ?_) ?_ ?_
              rotate_left
              ·show Act.put _ (some 158) _ = _
               simp only [Act.put, List.setIfInBounds_toArray, List.set_cons_zero, List.set_cons_succ, i64_w, i32_w]
               rfl
              refine pure_ (i := 6) (N := some 159) (v := ?_) (a' := ?_) #[true, true, true, true, true, true, true, false, false, false, false, false, false, false] rfl rfl (any_of HT_.out (by kernel_rfl)) (fun _ _ _ h => h) (Or.inl ⟨by rfl, ?_⟩) ?_ ?_
              rotate_left
              ·intro w'
               go_simp
               with_reducible rfl
              rotate_left
              ·simp only [Act.put, List.setIfInBounds_toArray, List.set_cons_zero, List.set_cons_succ, i64_w, i32_w]
               rfl
              refine pure_ (i := 7) (N := some 160) (v := ?_) (a' := ?_) #[true, true, true, true, true, true, true, true, false, false, false, false, false, false] rfl rfl (any_of HT_.out (by kernel_rfl)) (fun _ _ _ h => h) (Or.inl ⟨by rfl, ?_⟩) ?_ ?_
              rotate_left
              ·intro w'
               go_simp
               with_reducible rfl
              rotate_left
              ·simp only [Act.put, List.setIfInBounds_toArray, List.set_cons_zero, List.set_cons_succ, i64_w, i32_w]
               rfl
              refine pure_ (i := 8) (N := some 161) (v := ?_) (a' := ?_) #[true, true, true, true, true, true, true, true, true, false, false, false, false, false] rfl rfl (any_of HT_.out (by kernel_rfl)) (fun _ _ _ h => h) (Or.inl ⟨by rfl, ?_⟩) ?_ ?_
              rotate_left
              ·intro w'
               go_simp
               with_reducible rfl
              rotate_left
              ·simp only [Act.put, List.setIfInBounds_toArray, List.set_cons_zero, List.set_cons_succ, i64_w, i32_w]
               rfl
              refine pure_ (i := 9) (N := some 162) (v := ?_) (a' := ?_) #[true, true, true, true, true, true, true, true, true, true, false, false, false, false] rfl rfl (any_of HT_.out (by kernel_rfl)) (fun _ _ _ h => h) (Or.inl ⟨by rfl, ?_⟩) ?_ ?_
              rotate_left
              ·intro w'
               go_simp
               with_reducible rfl
              rotate_left
              ·simp only [Act.put, List.setIfInBounds_toArray, List.set_cons_zero, List.set_cons_succ, i64_w, i32_w]
               rfl
              refine take_ (i := 10) (N := some 163) (v := ?_) (a' := ?_) #[true, true, true, true, true, true, true, true, true, true, true, false, false, false] rfl rfl (take_ofW HT_.out HW_.out (by kernel_rfl)) (fun _ _ _ h => h) (Or.inl ⟨by rfl, ?_⟩) hHeld ?_ ?_
              rotate_left
              ·rintro w' ⟨s0, s1, s2, s3⟩
               go_simp
               with_reducible rfl
              rotate_left
              ·simp only [Act.put, List.setIfInBounds_toArray, List.set_cons_zero, List.set_cons_succ, i64_w, i32_w]
               rfl
              refine one_ (i := 11) (N := some 164) #[true, true, true, true, true, true, true, true, true, true, true, true, false, false] rfl rfl (one_of HT_.out (by kernel_rfl)) (by decide) (fun K hK => ?_)
              refine goes_ Tryd.func6 (by kernel_rfl) rfl #[.int .i64 (rd x6_17 x18_3)] (by rfl) rfl rfl (by (try simp only [List.map_toArray, List.map_cons, List.map_nil]); first | done | rfl | (simp only [List.length_drop, List.length_take]; rfl)) ?_
              with_reducible refine (impl_HandleText.calls k3 (rd x6_17 x18_3) t305 _ A113.out).mono ?_
              rintro e w' ⟨rfl, ⟨nd, rfl⟩⟩
              refine ⟨_, rfl, ?_⟩
              refine hK.out _ _ ⟨(blk_cell BK238.out 0).trans rfl, (blk_cell BK238.out 1).trans rfl, hHeld.2.2.1, hHeld.2.2.2⟩ (fun hHeld => ?_)
              clear hK K
              refine norm_ (a' := ?_) ?_ ?_
              rotate_left
              ·show Act.put _ (some 164) _ = _
               simp only [Act.put, List.setIfInBounds_toArray, List.set_cons_zero, List.set_cons_succ, i64_w, i32_w]
               rfl
              refine pure_ (i := 12) (N := some 165) (v := ?_) (a' := ?_) #[true, true, true, true, true, true, true, true, true, true, true, true, true, false] rfl rfl (any_of HT_.out (by kernel_rfl)) (fun _ _ _ h => h) (Or.inl ⟨by rfl, ?_⟩) ?_ ?_
              rotate_left
              ·intro w'
               go_simp
               with_reducible rfl
              rotate_left
              ·simp only [Act.put, List.setIfInBounds_toArray, List.set_cons_zero, List.set_cons_succ, i64_w, i32_w]
               rfl
              refine pure_ (i := 13) (N := some 166) (v := ?_) (a' := ?_) #[true, true, true, true, true, true, true, true, true, true, true, true, true, true] rfl rfl (any_of HT_.out (by kernel_rfl)) (fun _ _ _ h => h) (Or.inl ⟨by rfl, ?_⟩) ?_ ?_
              rotate_left
              ·intro w'
               go_simp
               with_reducible rfl
              rotate_left
              ·simp only [Act.put, List.setIfInBounds_toArray, List.set_cons_zero, List.set_cons_succ, i64_w, i32_w]
               rfl
              refine done_ (done_of HT_.out (by kernel_rfl)) ?_
              try go_wp2
              go_roundg k3
              case measure => have := HK1.out; have := HJ17.out; have := HK3.out; omega
              case rel => exact ⟨(wrap64 (x18_3 + 1)), (by first | rfl | (simp; done) | (simp [*]; done)), H', ⟨by have := HK1.out; have := HJ17.out; have := HK3.out; omega⟩, ⟨by (with_reducible repeat (first | apply Kd.R_alloc | apply Kd.R_drewN | apply Kd.R_drew)); exact HO_5.out⟩, ⟨by (with_reducible repeat (first | apply Kd.R_alloc | apply Kd.R_drewN | apply Kd.R_drew)); exact HO_6.out⟩, ⟨by (with_reducible repeat (first | apply Kd.R_alloc | apply Kd.R_drewN | apply Kd.R_drew)); exact HO_239000.out⟩, ⟨by (with_reducible repeat (first | apply Kd.Q_alloc | apply Kd.Q_drewN | apply Kd.Q_drew)); exact HO_239001.out⟩, ⟨by (with_reducible repeat (first | refine blk_drewN ?_ _ | refine blk_drew ?_ | refine blk_alloc ?_ _)); exact BK238.out⟩, ⟨by repeat (first | (with_reducible first | exact HB.out | apply below_alloc | apply pw_below_drewN | apply below_drew1 | refine below_set ?_ GE238.out) | exact HB.out)⟩⟩
           ·rw [if_neg c110] at H
            exact absurd H (by simp)
          ·rw [if_neg c109] at H
           have c109b0 : decide (x18_3 < (x6_17.length : Int)) = false := decide_eq_false c109
           clear c109
           replace H := Option.bind_eq_some_iff.mp H
           obtain ⟨t306, A1200, H⟩ := H
           replace H : (if t306 = true then ((impl_Spent.f k3 x239000_17 x239001_17).bind fun t307 => (if (wrap64 ((wrap64 ((x5_17.length : Int) + (x239001_17.length : Int))) + t307)) = (x239000_17.length : Int) then (laws_FnHandles.l0 k3 l0 x5_17 x6_17 (wrap64 (x7_1 + 1)) x239000_17 x239001_17) else (some false))) else (some false)) = some true := H
           have A120 := Aside0.mk A1200
           clear A1200
           by_cases c121 : t306 = true
           ·subst c121
            have H1 : ((impl_Spent.f k3 x239000_17 x239001_17).bind fun t307 => (if (wrap64 ((wrap64 ((x5_17.length : Int) + (x239001_17.length : Int))) + t307)) = (x239000_17.length : Int) then (laws_FnHandles.l0 k3 l0 x5_17 x6_17 (wrap64 (x7_1 + 1)) x239000_17 x239001_17) else (some false))) = some true := by rw [if_pos rfl] at H; exact H
            clear H
            have H := H1
            clear H1
            replace H := Option.bind_eq_some_iff.mp H
            obtain ⟨t307, A1220, H⟩ := H
            replace H : (if (wrap64 ((wrap64 ((x5_17.length : Int) + (x239001_17.length : Int))) + t307)) = (x239000_17.length : Int) then (laws_FnHandles.l0 k3 l0 x5_17 x6_17 (wrap64 (x7_1 + 1)) x239000_17 x239001_17) else (some false)) = some true := H
            have A122 := Aside0.mk A1220
            clear A1220
            by_cases c123 : (wrap64 ((wrap64 ((x5_17.length : Int) + (x239001_17.length : Int))) + t307)) = (x239000_17.length : Int)
            ·rw [if_pos c123] at H
             have c123b0 : ((wrap64 ((wrap64 ((x5_17.length : Int) + (x239001_17.length : Int))) + t307)) == (x239000_17.length : Int)) = true := beq_iff_eq.mpr c123
             have c123b1 : ((wrap64 ((wrap64 ((x5_17.length : Int) + (x239001_17.length : Int))) + t307)) != (x239000_17.length : Int)) = false := bne_eq_false_iff_eq.mpr c123
             clear c123
             have H' := Aside0.mk H
             clear H
             obtain ⟨Ao124, co124, eo124⟩ := Kd.R_slice HO_6.out
             subst eo124
             try go_wp2
             have n0_ := Aside0.mk (Kd.R_drew HO_5.out)
             have n1_ := Aside0.mk (Kd.R_drew HO_6.out)
             have n2_ := Aside0.mk (Kd.R_drew HO_239000.out)
             have n3_ := Aside0.mk (Kd.Q_drew HO_239001.out)
             have n4_ := Aside0.mk (blk_drew BK238.out)
             have n5_ := Aside0.mk (below_drew1 HB.out)
             clear HO_5
             clear HO_6
             clear HO_239000
             clear HO_239001
             clear BK238
             clear HB
             have HO_5 := n0_
             have HO_6 := n1_
             have HO_239000 := n2_
             have HO_239001 := n3_
             have BK238 := n4_
             have HB := n5_
             clear n0_ n1_ n2_ n3_ n4_ n5_
             obtain ⟨Ao126, co126, eo126⟩ := Kd.R_slice HO_239000.out
             (first | subst eo126 | (injection eo126 with f1_ f2_ f3_; have f4_ := f1_.symm; have f5_ := f3_.symm; clear f1_ f2_ f3_; subst f4_; subst f5_))
             obtain ⟨Ao127, co127, eo127, _⟩ := Kd.Q_slice HO_239001.out
             (first | subst eo127 | (injection eo127 with f1_ f2_ f3_; have f4_ := f1_.symm; have f5_ := f3_.symm; clear f1_ f2_ f3_; subst f4_; subst f5_))
             refine start_ (n := 18) (S := fun w' => w'.cell? ⟨gb238, 0, none⟩ = some (.slice Ao126 x239000_17.length co126) ∧ w'.cell? ⟨gb238, 1, none⟩ = some (.slice Ao127 x239001_17.length co127)) (ds := []) #[false, false, false, false, false, false, false, false, false, false, false, false, false, false, false, false, false, false] (by kernel_rfl) rfl rfl ⟨(blk_cell BK238.out 0).trans rfl, (blk_cell BK238.out 1).trans rfl⟩ (fun hHeld => ?_); refine with_tabW laws_FnHandles.tab34 laws_FnHandles.bits34 (fun HT_ HW_ => ?_)
             generalize wr.drew = w125 at HO_5 HO_6 HO_239000 HO_239001 BK238 HB hHeld ⊢
             refine take_ (i := 0) (N := some 167) (v := ?_) (a' := ?_) #[true, false, false, false, false, false, false, false, false, false, false, false, false, false, false, false, false, false] rfl rfl (take_ofW HT_.out HW_.out (by kernel_rfl)) (fun _ _ _ h => h) (Or.inl ⟨by rfl, ?_⟩) hHeld ?_ ?_
             rotate_left
             ·rintro w' ⟨s0, s1⟩
              go_simp
              with_reducible rfl
             rotate_left
             ·simp only [Act.put, List.setIfInBounds_toArray, List.set_cons_zero, List.set_cons_succ, i64_w, i32_w]
              rfl
             refine one_ (i := 1) (N := some 168) #[true, true, false, false, false, false, false, false, false, false, false, false, false, false, false, false, false, false] rfl rfl (one_of HT_.out (by kernel_rfl)) (by decide) (fun K hK => ?_)
             refine goes_ Tryd.func16 (by kernel_rfl) rfl #[.agg #[.slice Ao126 x239000_17.length co126, .slice Ao127 x239001_17.length co127]] (by rfl) rfl rfl (by (try simp only [List.map_toArray, List.map_cons, List.map_nil]); first | done | rfl | (simp only [List.length_drop, List.length_take]; rfl)) ?_
             with_reducible refine (impl_ArenaOk.calls k3 _ _ x239000_17 _ _ x239001_17 true _ ?side1 ?side2 ?side3 ?side4 A120.out).mono ?_
             (case side1 => repeat (first | exact (Kd.R_reads' HO_239000.out).2.2 | (with_reducible refine Kd.C_alloc ?_ _) | (with_reducible refine Kd.C_drewN ?_ _) | (with_reducible refine Kd.C_drew ?_)))
             (case side2 => exact (Kd.R_reads' HO_239000.out).2.1)
             (case side3 => repeat (first | exact (Kd.Q_reads' HO_239001.out).2.2 | (with_reducible refine Kd.C_alloc ?_ _) | (with_reducible refine Kd.C_drewN ?_ _) | (with_reducible refine Kd.C_drew ?_)))
             (case side4 => exact (Kd.Q_reads' HO_239001.out).2.1)
             rintro e w128 ⟨rfl, hb⟩
             refine ⟨_, rfl, ?_⟩
             have n0_ := Aside0.mk (Kd.R_below (by (with_reducible repeat (first | apply Kd.R_alloc | apply Kd.R_drewN | apply Kd.R_drew)); exact HO_5.out) hb)
             have n1_ := Aside0.mk (Kd.R_below (by (with_reducible repeat (first | apply Kd.R_alloc | apply Kd.R_drewN | apply Kd.R_drew)); exact HO_6.out) hb)
             have n2_ := Aside0.mk (Kd.R_below (by (with_reducible repeat (first | apply Kd.R_alloc | apply Kd.R_drewN | apply Kd.R_drew)); exact HO_239000.out) hb)
             have n3_ := Aside0.mk (Kd.Q_below (by (with_reducible repeat (first | apply Kd.Q_alloc | apply Kd.Q_drewN | apply Kd.Q_drew)); exact HO_239001.out) hb)
             have n4_ := Aside0.mk (blk_below (g := gb238) (o := .cells #[.slice Ao126 x239000_17.length co126, .slice Ao127 x239001_17.length co127] 29 (0, 0)) (by (with_reducible repeat (first | refine blk_drewN ?_ _ | refine blk_drew ?_ | refine blk_alloc ?_ _)); exact BK238.out) hb)
             have n5_ := Aside0.mk (below_step (by repeat (first | (with_reducible first | exact HB.out | apply below_alloc | apply pw_below_drewN | apply below_drew1 | refine below_set ?_ GE238.out) | exact HB.out)) hb)
             clear HO_5
             clear HO_6
             clear HO_239000
             clear HO_239001
             clear BK238
             clear HB
             have HO_5 := n0_
             have HO_6 := n1_
             have HO_239000 := n2_
             have HO_239001 := n3_
             have BK238 := n4_
             have HB := n5_
             clear n0_ n1_ n2_ n3_ n4_ n5_
             (try clear hb)
             (try clear hb2)
             (try clear hk)
             (try clear hi)
             obtain ⟨Ao129, co129, eo129⟩ := Kd.R_slice HO_5.out
             (first | subst eo129 | (injection eo129 with f1_ f2_ f3_; have f4_ := f1_.symm; have f5_ := f3_.symm; clear f1_ f2_ f3_; subst f4_; subst f5_))
             refine hK.out _ _ ⟨(blk_cell BK238.out 0).trans rfl, (blk_cell BK238.out 1).trans rfl⟩ (fun hHeld => ?_)
             clear hK K
             refine norm_ (a' := ?_) ?_ ?_
             rotate_left
             ·show Act.put _ (some 168) _ = _
              simp only [Act.put, List.setIfInBounds_toArray, List.set_cons_zero, List.set_cons_succ, i64_w, i32_w]
              rfl
             refine pure_ (i := 2) (N := some 169) (v := ?_) (a' := ?_) #[true, true, true, false, false, false, false, false, false, false, false, false, false, false, false, false, false, false] rfl rfl (any_of HT_.out (by kernel_rfl)) (fun _ _ _ h => h) (Or.inl ⟨by rfl, ?_⟩) ?_ ?_
             rotate_left
             ·intro w'
              go_simp
              with_reducible rfl
             rotate_left
             ·simp only [Act.put, List.setIfInBounds_toArray, List.set_cons_zero, List.set_cons_succ, i64_w, i32_w]
              rfl
             refine pure_ (i := 3) (N := some 170) (v := ?_) (a' := ?_) #[true, true, true, true, false, false, false, false, false, false, false, false, false, false, false, false, false, false] rfl rfl (any_of HT_.out (by kernel_rfl)) (fun _ _ _ h => h) (Or.inl ⟨by rfl, ?_⟩) ?_ ?_
             rotate_left
             ·intro w'
              go_simp
              with_reducible rfl
             rotate_left
             ·simp only [Act.put, List.setIfInBounds_toArray, List.set_cons_zero, List.set_cons_succ, i64_w, i32_w]
              rfl
             refine pure_ (i := 4) (N := some 171) (v := ?_) (a' := ?_) #[true, true, true, true, true, false, false, false, false, false, false, false, false, false, false, false, false, false] rfl rfl (any_of HT_.out (by kernel_rfl)) (fun _ _ _ h => h) (Or.inl ⟨by rfl, ?_⟩) ?_ ?_
             rotate_left
             ·intro w'
              go_simp
              with_reducible rfl
             rotate_left
             ·simp only [Act.put, List.setIfInBounds_toArray, List.set_cons_zero, List.set_cons_succ, i64_w, i32_w]
              rfl
             refine pure_ (i := 5) (N := some 172) (v := ?_) (a' := ?_) #[true, true, true, true, true, true, false, false, false, false, false, false, false, false, false, false, false, false] rfl rfl (any_of HT_.out (by kernel_rfl)) (fun _ _ _ h => h) (Or.inl ⟨by rfl, ?_⟩) ?_ ?_
             rotate_left
             ·intro w'
              go_simp
              with_reducible rfl
             rotate_left
             ·simp only [Act.put, List.setIfInBounds_toArray, List.set_cons_zero, List.set_cons_succ, i64_w, i32_w]
              rfl
             refine pure_ (i := 6) (N := some 173) (v := ?_) (a' := ?_) #[true, true, true, true, true, true, true, false, false, false, false, false, false, false, false, false, false, false] rfl rfl (any_of HT_.out (by kernel_rfl)) (fun _ _ _ h => h) (Or.inl ⟨by rfl, ?_⟩) ?_ ?_
             rotate_left
             ·intro w'
              go_simp
              with_reducible rfl
             rotate_left
             ·simp only [Act.put, List.setIfInBounds_toArray, List.set_cons_zero, List.set_cons_succ, i64_w, i32_w]
              rfl
             refine pure_ (i := 13) (N := some 180) (v := ?_) (a' := ?_) #[true, true, true, true, true, true, true, false, false, false, false, false, false, true, false, false, false, false] rfl rfl (any_of HT_.out (by kernel_rfl)) (fun _ _ _ h => h) (Or.inl ⟨by rfl, ?_⟩) ?_ ?_
             rotate_left
             ·intro w'
              go_simp
              with_reducible rfl
             rotate_left
             ·simp only [Act.put, List.setIfInBounds_toArray, List.set_cons_zero, List.set_cons_succ, i64_w, i32_w]
              rfl
             refine take_ (i := 7) (N := some 174) (v := ?_) (a' := ?_) #[true, true, true, true, true, true, true, true, false, false, false, false, false, true, false, false, false, false] rfl rfl (take_ofW HT_.out HW_.out (by kernel_rfl)) (fun _ _ _ h => h) (Or.inl ⟨by rfl, ?_⟩) hHeld ?_ ?_
             rotate_left
             ·rintro w' ⟨s0, s1⟩
              go_simp
              with_reducible rfl
             rotate_left
             ·simp only [Act.put, List.setIfInBounds_toArray, List.set_cons_zero, List.set_cons_succ, i64_w, i32_w]
              rfl
             refine pure_ (i := 8) (N := some 175) (v := ?_) (a' := ?_) #[true, true, true, true, true, true, true, true, true, false, false, false, false, true, false, false, false, false] rfl rfl (any_of HT_.out (by kernel_rfl)) (fun _ _ _ h => h) (Or.inl ⟨by rfl, ?_⟩) ?_ ?_
             rotate_left
             ·intro w'
              go_simp
              with_reducible rfl
             rotate_left
             ·simp only [Act.put, List.setIfInBounds_toArray, List.set_cons_zero, List.set_cons_succ, i64_w, i32_w]
              rfl
             refine pure_ (i := 9) (N := some 176) (v := ?_) (a' := ?_) #[true, true, true, true, true, true, true, true, true, true, false, false, false, true, false, false, false, false] rfl rfl (any_of HT_.out (by kernel_rfl)) (fun _ _ _ h => h) (Or.inl ⟨by rfl, ?_⟩) ?_ ?_
             rotate_left
             ·intro w'
              go_simp
              with_reducible rfl
             rotate_left
             ·simp only [Act.put, List.setIfInBounds_toArray, List.set_cons_zero, List.set_cons_succ, i64_w, i32_w]
              rfl
             refine take_ (i := 10) (N := some 177) (v := ?_) (a' := ?_) #[true, true, true, true, true, true, true, true, true, true, true, false, false, true, false, false, false, false] rfl rfl (take_ofW HT_.out HW_.out (by kernel_rfl)) (fun _ _ _ h => h) (Or.inl ⟨by rfl, ?_⟩) hHeld ?_ ?_
             rotate_left
             ·rintro w' ⟨s0, s1⟩
              go_simp
              with_reducible rfl
             rotate_left
             ·simp only [Act.put, List.setIfInBounds_toArray, List.set_cons_zero, List.set_cons_succ, i64_w, i32_w]
              rfl
             refine take_ (i := 14) (N := some 181) (v := ?_) (a' := ?_) #[true, true, true, true, true, true, true, true, true, true, true, false, false, true, true, false, false, false] rfl rfl (take_ofW HT_.out HW_.out (by kernel_rfl)) (fun _ _ _ h => h) (Or.inl ⟨by rfl, ?_⟩) hHeld ?_ ?_
             rotate_left
             ·rintro w' ⟨s0, s1⟩
              go_simp
              with_reducible rfl
             rotate_left
             ·simp only [Act.put, List.setIfInBounds_toArray, List.set_cons_zero, List.set_cons_succ, i64_w, i32_w]
              rfl
             refine pure_ (i := 15) (N := some 182) (v := ?_) (a' := ?_) #[true, true, true, true, true, true, true, true, true, true, true, false, false, true, true, true, false, false] rfl rfl (any_of HT_.out (by kernel_rfl)) (fun _ _ _ h => h) (Or.inl ⟨by rfl, ?_⟩) ?_ ?_
             rotate_left
             ·intro w'
              go_simp
              with_reducible rfl
             rotate_left
             ·simp only [Act.put, List.setIfInBounds_toArray, List.set_cons_zero, List.set_cons_succ, i64_w, i32_w]
              rfl
             refine one_ (i := 11) (N := some 178) #[true, true, true, true, true, true, true, true, true, true, true, true, false, true, true, true, false, false] rfl rfl (one_of HT_.out (by kernel_rfl)) (by decide) (fun K hK => ?_)
             refine goes_ Tryd.func17 (by kernel_rfl) rfl #[.agg #[.slice Ao126 x239000_17.length co126, .slice Ao127 x239001_17.length co127]] (by rfl) rfl rfl (by (try simp only [List.map_toArray, List.map_cons, List.map_nil]); first | done | rfl | (simp only [List.length_drop, List.length_take]; rfl)) ?_
             with_reducible refine (impl_Spent.calls k3 _ _ x239000_17 _ _ x239001_17 t307 _ ?side1 ?side2 ?side3 ?side4 A122.out).mono ?_
             (case side1 => repeat (first | exact (Kd.R_reads' HO_239000.out).2.2 | (with_reducible refine Kd.C_alloc ?_ _) | (with_reducible refine Kd.C_drewN ?_ _) | (with_reducible refine Kd.C_drew ?_)))
             (case side2 => exact (Kd.R_reads' HO_239000.out).2.1)
             (case side3 => repeat (first | exact (Kd.Q_reads' HO_239001.out).2.2 | (with_reducible refine Kd.C_alloc ?_ _) | (with_reducible refine Kd.C_drewN ?_ _) | (with_reducible refine Kd.C_drew ?_)))
             (case side4 => exact (Kd.Q_reads' HO_239001.out).2.1)
             rintro e w130 ⟨rfl, hb⟩
             refine ⟨_, rfl, ?_⟩
             have n0_ := Aside0.mk (Kd.R_below (by (with_reducible repeat (first | apply Kd.R_alloc | apply Kd.R_drewN | apply Kd.R_drew)); exact HO_5.out) hb)
             have n1_ := Aside0.mk (Kd.R_below (by (with_reducible repeat (first | apply Kd.R_alloc | apply Kd.R_drewN | apply Kd.R_drew)); exact HO_6.out) hb)
             have n2_ := Aside0.mk (Kd.R_below (by (with_reducible repeat (first | apply Kd.R_alloc | apply Kd.R_drewN | apply Kd.R_drew)); exact HO_239000.out) hb)
             have n3_ := Aside0.mk (Kd.Q_below (by (with_reducible repeat (first | apply Kd.Q_alloc | apply Kd.Q_drewN | apply Kd.Q_drew)); exact HO_239001.out) hb)
             have n4_ := Aside0.mk (blk_below (g := gb238) (o := .cells #[.slice Ao126 x239000_17.length co126, .slice Ao127 x239001_17.length co127] 29 (0, 0)) (by (with_reducible repeat (first | refine blk_drewN ?_ _ | refine blk_drew ?_ | refine blk_alloc ?_ _)); exact BK238.out) hb)
             have n5_ := Aside0.mk (below_step (by repeat (first | (with_reducible first | exact HB.out | apply below_alloc | apply pw_below_drewN | apply below_drew1 | refine below_set ?_ GE238.out) | exact HB.out)) hb)
             clear HO_5
             clear HO_6
             clear HO_239000
             clear HO_239001
             clear BK238
             clear HB
             have HO_5 := n0_
             have HO_6 := n1_
             have HO_239000 := n2_
             have HO_239001 := n3_
             have BK238 := n4_
             have HB := n5_
             clear n0_ n1_ n2_ n3_ n4_ n5_
             (try clear hb)
             (try clear hb2)
             (try clear hk)
             (try clear hi)
             refine hK.out _ _ ⟨(blk_cell BK238.out 0).trans rfl, (blk_cell BK238.out 1).trans rfl⟩ (fun hHeld => ?_)
             clear hK K
             refine norm_ (a' := ?_) ?_ ?_
             rotate_left
             ·show Act.put _ (some 178) _ = _
              simp only [Act.put, List.setIfInBounds_toArray, List.set_cons_zero, List.set_cons_succ, i64_w, i32_w]
              rfl
             refine pure_ (i := 12) (N := some 179) (v := ?_) (a' := ?_) #[true, true, true, true, true, true, true, true, true, true, true, true, true, true, true, true, false, false] rfl rfl (any_of HT_.out (by kernel_rfl)) (fun _ _ _ h => h) (Or.inl ⟨by rfl, ?_⟩) ?_ ?_
             rotate_left
             ·intro w'
              go_simp
              with_reducible rfl
             rotate_left
             ·simp only [Act.put, List.setIfInBounds_toArray, List.set_cons_zero, List.set_cons_succ, i64_w, i32_w]
              rfl
             refine pure_ (i := 16) (N := some 183) (v := ?_) (a' := ?_) #[true, true, true, true, true, true, true, true, true, true, true, true, true, true, true, true, true, false] rfl rfl (any_of HT_.out (by kernel_rfl)) (fun _ _ _ h => h) (Or.inl ⟨by rfl, ?_⟩) ?_ ?_
             rotate_left
             ·intro w'
              go_simp
              with_reducible rfl
             rotate_left
             ·simp only [Act.put, List.setIfInBounds_toArray, List.set_cons_zero, List.set_cons_succ, i64_w, i32_w]
              rfl
             refine pure_ (i := 17) (N := some 184) (v := ?_) (a' := ?_) #[true, true, true, true, true, true, true, true, true, true, true, true, true, true, true, true, true, true] rfl rfl (any_of HT_.out (by kernel_rfl)) (fun _ _ _ h => h) (Or.inl ⟨by rfl, ?_⟩) ?_ ?_
             rotate_left
             ·intro w'
              go_simp
              with_reducible rfl
             rotate_left
             ·simp only [Act.put, List.setIfInBounds_toArray, List.set_cons_zero, List.set_cons_succ, i64_w, i32_w]
              rfl
             refine done_ (done_of HT_.out (by kernel_rfl)) ?_
             try go_wp2
             go_roundg k3
             case measure => have := HK1.out; have := HJ17.out; have := HK3.out; omega
             case rel => exact ⟨(x5_17), (x6_17), (wrap64 (x7_1 + 1)), (x239000_17), (x239001_17), (.slice Ao126 x239000_17.length co126), (.slice Ao127 x239001_17.length co127), (by first | rfl | (simp; done) | (simp [*]; done)), H', ⟨by have := HK1.out; have := HJ17.out; have := HK3.out; omega⟩, ⟨by (with_reducible repeat (first | apply Kd.R_alloc | apply Kd.R_drewN | apply Kd.R_drew)); exact HO_5.out⟩, ⟨by (with_reducible repeat (first | apply Kd.R_alloc | apply Kd.R_drewN | apply Kd.R_drew)); exact HO_6.out⟩, ⟨by (with_reducible repeat (first | apply Kd.R_alloc | apply Kd.R_drewN | apply Kd.R_drew)); exact HO_239000.out⟩, ⟨by (with_reducible repeat (first | apply Kd.Q_alloc | apply Kd.Q_drewN | apply Kd.Q_drew)); exact HO_239001.out⟩, ⟨by (with_reducible repeat (first | refine blk_drewN ?_ _ | refine blk_drew ?_ | refine blk_alloc ?_ _)); exact BK238.out⟩, ⟨by repeat (first | (with_reducible first | exact HB.out | apply below_alloc | apply pw_below_drewN | apply below_drew1 | refine below_set ?_ GE238.out) | exact HB.out)⟩⟩
            ·rw [if_neg c123] at H
             have c123b0 : ((wrap64 ((wrap64 ((x5_17.length : Int) + (x239001_17.length : Int))) + t307)) == (x239000_17.length : Int)) = false := beq_eq_false_iff_ne.mpr c123
             have c123b1 : ((wrap64 ((wrap64 ((x5_17.length : Int) + (x239001_17.length : Int))) + t307)) != (x239000_17.length : Int)) = true := bne_iff_ne.mpr c123
             exact absurd H (by first | (simp; done) | ((repeat' split) <;> simp))
           ·replace c121 := Bool.eq_false_iff.mpr c121
            subst c121
            have H1 : (some false) = some true := by rw [if_neg (show ¬ (false = true) by decide)] at H; exact H
            clear H
            have H := H1
            clear H1
            exact absurd H (by first | (simp; done) | ((repeat' split) <;> simp))
     ·rw [if_neg c16] at H
      have c16b0 : decide (x7_1 < 30) = false := decide_eq_false c16
      clear c16
      clear H
      go_wp2
      go_ret
      (try rw [HT_.out])
      (try simp only [HT_.out])
      exact ⟨by first | rfl | (simp [errW_none, errW_some] <;> rfl) | (simp [*, errW_none, errW_some] <;> rfl), by repeat (first | (with_reducible first | exact HB.out | apply below_alloc | apply pw_below_drewN | apply below_drew1 | refine below_set ?_ GE238.out) | exact HB.out)⟩
  ·replace c6 := Bool.eq_false_iff.mpr c6
   subst c6
   have H1 : (some false) = some true := by rw [if_neg (show ¬ (false = true) by decide)] at H; exact H
   clear H
   have H := H1
   clear H1
   exact absurd H (by first | (simp; done) | ((repeat' split) <;> simp))


end Go.Proofs.YtppidjpamaddhaaDoor.H
namespace Go.Proofs.YtppidjpamaddhaaDoor.H
open Go.RowKit Go.Proofs.YtppidjpamaddhaaDoorW.PrintWords Go.Proofs.YtppidjpamaddhaaDoorW.PrintLast Go.Proofs.YtppidjpamaddhaaDoorW.PrintMore
attribute [local go_sem] max2_int min2_int max_two min_two max_three min_three max_four min_four   -- for this text's walks alone
set_option linter.unusedVariables false
set_option linter.unusedSimpArgs false

/-- THE ONE PURE STATEMENT of laws_FnHandles. -/
def laws_FnHandles.Pure : Prop := ∀ (l0 : List Int), (l0.length ≤ maxLen ∧ ∀ z0 ∈ l0, (Lit.int .u8 z0).wf = true) → ∃ k, laws_FnHandles.f k l0 = some true


end Go.Proofs.YtppidjpamaddhaaDoor.H
