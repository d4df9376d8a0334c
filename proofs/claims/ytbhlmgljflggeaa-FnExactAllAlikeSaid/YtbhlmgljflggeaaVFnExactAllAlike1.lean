/- What the Go functions that the law FnExactAllAlike reaches compute, as plain Lean functions, and that their calls come to just that. Conditions: those that each theorem states. Written by the session's program. -/
import Derived.Test.YtbhlmgljflggeaaM0
import Derived.Test.YtbhlmgljflggeaaVFnExactAllAlike0
namespace Go.Proofs.Ytbhlmgljflggeaa.M
open Go.RowKit Go.Proofs.YtbhlmgljflggeaaW.PrintWords Go.Proofs.YtbhlmgljflggeaaW.PrintLast Go.Proofs.YtbhlmgljflggeaaW.PrintMore
attribute [local go_sem] max2_int min2_int max_two min_two max_three min_three max_four min_four   -- for this text's walks alone
set_option linter.unusedVariables false
set_option linter.unusedSimpArgs false

def impl_Word.j0 : Nat → List Int → List Int → Bool → Int → Int → Int → Int → Option (List Int × Int × Bool)
  | 0, _, _, _, _, _, _, _ => none
  | k + 1, x0, x7, x50, x296000, x296001, x296002, x296003 => if x50 = true then (some (x7, 0, false)) else (if 0 ≤ x296001 then (if x296001 < (x0.length : Int) then (if x296000 = 2 then (if x296001 < (x7.length : Int) then (some ((x7.set (x296001 : Int).toNat x296003), x296003, true)) else (none)) else (if x296000 = 3 then (if x296001 < (x7.length : Int) then (some ((x7.set (x296001 : Int).toNat x296003), rd x0 x296001, true)) else (none)) else (if x296000 = 4 then (if (rd x0 x296001) = x296002 then (if x296001 < (x7.length : Int) then (some ((x7.set (x296001 : Int).toNat x296003), rd x0 x296001, true)) else (none)) else (some (x7, rd x0 x296001, true))) else (if x296000 = 5 then ((impl_isValue.f (wrap64 ((rd x0 x296001) + x296003))).bind fun t309 => (if t309 = true then (if x296001 < (x7.length : Int) then (some ((x7.set (x296001 : Int).toNat (wrap64 ((rd x0 x296001) + x296003))), wrap64 ((rd x0 x296001) + x296003), true)) else (none)) else (some (x7, 0, false)))) else (some (x7, rd x0 x296001, true)))))) else (none)) else (none))
def impl_Word.f (k : Nat) (l0 : List Int) (a1_0 : Int) (a1_1 : Int) (a1_2 : Int) (a1_3 : Int) : Option (List Int × Int × Bool) := (impl_own.f l0).bind fun t296 => ((impl_MemoryOk.f k l0).bind fun t299 => (if t299 = true then ((impl_in.f a1_0 1 5).bind fun t300 => (if t300 = true then ((impl_in.f a1_1 0 (wrap64 ((l0.length : Int) - 1))).bind fun t301 => (if t301 = true then (if a1_0 = 4 then ((impl_isValue.f a1_2).bind fun t302 => (if t302 = true then (if a1_0 = 1 then (impl_Word.j0 k l0 t296 false a1_0 a1_1 a1_2 a1_3) else ((impl_isValue.f a1_3).bind fun t303 => (impl_Word.j0 k l0 t296 (!t303) a1_0 a1_1 a1_2 a1_3))) else (impl_Word.j0 k l0 t296 true a1_0 a1_1 a1_2 a1_3))) else (if a1_0 = 1 then (impl_Word.j0 k l0 t296 false a1_0 a1_1 a1_2 a1_3) else ((impl_isValue.f a1_3).bind fun t304 => (impl_Word.j0 k l0 t296 (!t304) a1_0 a1_1 a1_2 a1_3)))) else (impl_Word.j0 k l0 t296 true a1_0 a1_1 a1_2 a1_3))) else (impl_Word.j0 k l0 t296 true a1_0 a1_1 a1_2 a1_3))) else (impl_Word.j0 k l0 t296 true a1_0 a1_1 a1_2 a1_3)))
set_option maxHeartbeats 8000000 in
set_option maxRecDepth 100000 in
theorem impl_Word.calls (k : Nat) (A0 : Option Addr) (c0 : Nat) (l0 : List Int) (a1_0 : Int) (a1_1 : Int) (a1_2 : Int) (a1_3 : Int) (r1 : List Int) (r2 : Int) (r3 : Bool) (w : World) (hr0 : Kd.C (Kd.int .i64) w A0 l0.length l0) (hc0 : l0.length ≤ c0) (h : impl_Word.f k l0 a1_0 a1_1 a1_2 a1_3 = some (r1, r2, r3)) :
    Calls Try.prog 21 #[.slice A0 l0.length c0, .agg #[.int .i64 a1_0, .int .i64 a1_1, .int .i64 a1_2, .int .i64 a1_3]] w fun e w' => ∃ v0_ : Value, e = .returned (.tuple #[v0_, .int .i64 r2, .bool r3]) ∧ Kd.R (Kd.int .i64) 3 w' w.heap.size (fun _ => True) v0_ r1 ∧ Below w.heap.size w w' := by
  have hu34 := Try.underlying34
  have HR0 := Aside0.mk hr0
  have HC0 := Aside0.mk hc0
  clear hr0 hc0
  have HB := Aside0.mk (Below.refl w.heap.size w)
  have H : ((impl_own.f l0).bind fun t296 => ((impl_MemoryOk.f k l0).bind fun t299 => (if t299 = true then ((impl_in.f a1_0 1 5).bind fun t300 => (if t300 = true then ((impl_in.f a1_1 0 (wrap64 ((l0.length : Int) - 1))).bind fun t301 => (if t301 = true then (if a1_0 = 4 then ((impl_isValue.f a1_2).bind fun t302 => (if t302 = true then (if a1_0 = 1 then (impl_Word.j0 k l0 t296 false a1_0 a1_1 a1_2 a1_3) else ((impl_isValue.f a1_3).bind fun t303 => (impl_Word.j0 k l0 t296 (!t303) a1_0 a1_1 a1_2 a1_3))) else (impl_Word.j0 k l0 t296 true a1_0 a1_1 a1_2 a1_3))) else (if a1_0 = 1 then (impl_Word.j0 k l0 t296 false a1_0 a1_1 a1_2 a1_3) else ((impl_isValue.f a1_3).bind fun t304 => (impl_Word.j0 k l0 t296 (!t304) a1_0 a1_1 a1_2 a1_3)))) else (impl_Word.j0 k l0 t296 true a1_0 a1_1 a1_2 a1_3))) else (impl_Word.j0 k l0 t296 true a1_0 a1_1 a1_2 a1_3))) else (impl_Word.j0 k l0 t296 true a1_0 a1_1 a1_2 a1_3)))) = some (r1, r2, r3) := h
  clear h
  replace H := Option.bind_eq_some_iff.mp H
  obtain ⟨t296, A30, H⟩ := H
  replace H : ((impl_MemoryOk.f k l0).bind fun t299 => (if t299 = true then ((impl_in.f a1_0 1 5).bind fun t300 => (if t300 = true then ((impl_in.f a1_1 0 (wrap64 ((l0.length : Int) - 1))).bind fun t301 => (if t301 = true then (if a1_0 = 4 then ((impl_isValue.f a1_2).bind fun t302 => (if t302 = true then (if a1_0 = 1 then (impl_Word.j0 k l0 t296 false a1_0 a1_1 a1_2 a1_3) else ((impl_isValue.f a1_3).bind fun t303 => (impl_Word.j0 k l0 t296 (!t303) a1_0 a1_1 a1_2 a1_3))) else (impl_Word.j0 k l0 t296 true a1_0 a1_1 a1_2 a1_3))) else (if a1_0 = 1 then (impl_Word.j0 k l0 t296 false a1_0 a1_1 a1_2 a1_3) else ((impl_isValue.f a1_3).bind fun t304 => (impl_Word.j0 k l0 t296 (!t304) a1_0 a1_1 a1_2 a1_3)))) else (impl_Word.j0 k l0 t296 true a1_0 a1_1 a1_2 a1_3))) else (impl_Word.j0 k l0 t296 true a1_0 a1_1 a1_2 a1_3))) else (impl_Word.j0 k l0 t296 true a1_0 a1_1 a1_2 a1_3))) = some (r1, r2, r3) := H
  have A3 := Aside0.mk A30
  clear A30
  have HC4 := Aside0.mk H
  clear H
  go_enter Try.func21, Try.ntmps21
  go_upto_region 2 with (first | ((with_reducible refine gate_dst (N := 3) rfl ?_); (try (refine gate_guard (by rfl) ?_; dsimp only)); refine box_event ?hg (N := 3) ?hd (cs := #[.int .i64 a1_0, .int .i64 a1_1, .int .i64 a1_2, .int .i64 a1_3]) (t := 34) ?hr ?_; (case hd => rfl); (case hg => rfl); (case hr => first | (go_simp; done) | (go_simp; rfl)); intro gb295 hg w5 hbox hb; have n0_ := Aside0.mk (below_step (by repeat (first | (with_reducible first | exact HB.out | apply below_alloc | apply pw_below_drewN | apply below_drew1) | exact HB.out)) hb); have n1_ := Aside0.mk (hbox); have n2_ := Aside0.mk ((by rw [hg]; exact (below_size (by repeat (first | (with_reducible first | exact HB.out | apply below_alloc | apply pw_below_drewN | apply below_drew1) | exact HB.out))) : w.heap.size ≤ gb295)); have n3_ := Aside0.mk ((by rw [hg]; exact (below_size (by repeat (first | (with_reducible first | exact HB.out | apply below_alloc | apply pw_below_drewN | apply below_drew1) | exact HB.out))) : w.heap.size ≤ gb295)); clear HB; have HB := n0_; have BK295 := n1_; have GW295 := n2_; have GE295 := n3_; clear n0_ n1_ n2_ n3_; clear hb hbox hg) | (go_at_call 47; (with_reducible refine (impl_own.calls _ _ l0 t296 _ ?side1 ?side2 A3.out).mono ?_); (case side1 => repeat (first | exact (Kd.C_below HR0.out HB.out) | (with_reducible refine Kd.C_alloc ?_ _) | (with_reducible refine Kd.C_drewN ?_ _) | (with_reducible refine Kd.C_drew ?_))); (case side2 => exact HC0.out); rintro e w6 ⟨v297, rfl, ho0, hb⟩; have n0_ := Aside0.mk (Kd.R_lower ho0 (below_size (by repeat (first | (with_reducible first | exact HB.out | apply below_alloc | apply pw_below_drewN | apply below_drew1 | refine below_set ?_ GE295.out) | exact HB.out)))); have n1_ := Aside0.mk (blk_below (g := gb295) (o := .cells #[.int .i64 a1_0, .int .i64 a1_1, .int .i64 a1_2, .int .i64 a1_3] 34 (0, 0)) (by (with_reducible repeat (first | refine blk_drewN ?_ _ | refine blk_drew ?_ | refine blk_alloc ?_ _)); exact BK295.out) hb); have n2_ := Aside0.mk (below_step (by repeat (first | (with_reducible first | exact HB.out | apply below_alloc | apply pw_below_drewN | apply below_drew1 | refine below_set ?_ GE295.out) | exact HB.out)) hb); clear BK295; clear HB; have HO298 := n0_; have BK295 := n1_; have HB := n2_; clear n0_ n1_ n2_; (try clear hb); (try clear hb2); (try clear hk); (try clear hi); (try clear ho0)))
  repeat (go_quiet (first | ((with_reducible refine gate_dst (N := 3) rfl ?_); (try (refine gate_guard (by rfl) ?_; dsimp only)); refine box_event ?hg (N := 3) ?hd (cs := #[.int .i64 a1_0, .int .i64 a1_1, .int .i64 a1_2, .int .i64 a1_3]) (t := 34) ?hr ?_; (case hd => rfl); (case hg => rfl); (case hr => first | (go_simp; done) | (go_simp; rfl)); intro gb295 hg w5 hbox hb; have n0_ := Aside0.mk (below_step (by repeat (first | (with_reducible first | exact HB.out | apply below_alloc | apply pw_below_drewN | apply below_drew1) | exact HB.out)) hb); have n1_ := Aside0.mk (hbox); have n2_ := Aside0.mk ((by rw [hg]; exact (below_size (by repeat (first | (with_reducible first | exact HB.out | apply below_alloc | apply pw_below_drewN | apply below_drew1) | exact HB.out))) : w.heap.size ≤ gb295)); have n3_ := Aside0.mk ((by rw [hg]; exact (below_size (by repeat (first | (with_reducible first | exact HB.out | apply below_alloc | apply pw_below_drewN | apply below_drew1) | exact HB.out))) : w.heap.size ≤ gb295)); clear HB; have HB := n0_; have BK295 := n1_; have GW295 := n2_; have GE295 := n3_; clear n0_ n1_ n2_ n3_; clear hb hbox hg) | (go_at_call 47; (with_reducible refine (impl_own.calls _ _ l0 t296 _ ?side1 ?side2 A3.out).mono ?_); (case side1 => repeat (first | exact (Kd.C_below HR0.out HB.out) | (with_reducible refine Kd.C_alloc ?_ _) | (with_reducible refine Kd.C_drewN ?_ _) | (with_reducible refine Kd.C_drew ?_))); (case side2 => exact HC0.out); rintro e w6 ⟨v297, rfl, ho0, hb⟩; have n0_ := Aside0.mk (Kd.R_lower ho0 (below_size (by repeat (first | (with_reducible first | exact HB.out | apply below_alloc | apply pw_below_drewN | apply below_drew1 | refine below_set ?_ GE295.out) | exact HB.out)))); have n1_ := Aside0.mk (blk_below (g := gb295) (o := .cells #[.int .i64 a1_0, .int .i64 a1_1, .int .i64 a1_2, .int .i64 a1_3] 34 (0, 0)) (by (with_reducible repeat (first | refine blk_drewN ?_ _ | refine blk_drew ?_ | refine blk_alloc ?_ _)); exact BK295.out) hb); have n2_ := Aside0.mk (below_step (by repeat (first | (with_reducible first | exact HB.out | apply below_alloc | apply pw_below_drewN | apply below_drew1 | refine below_set ?_ GE295.out) | exact HB.out)) hb); clear BK295; clear HB; have HO298 := n0_; have BK295 := n1_; have HB := n2_; clear n0_ n1_ n2_; (try clear hb); (try clear hb2); (try clear hk); (try clear hi); (try clear ho0))); go_upto_region 2 with (first | ((with_reducible refine gate_dst (N := 3) rfl ?_); (try (refine gate_guard (by rfl) ?_; dsimp only)); refine box_event ?hg (N := 3) ?hd (cs := #[.int .i64 a1_0, .int .i64 a1_1, .int .i64 a1_2, .int .i64 a1_3]) (t := 34) ?hr ?_; (case hd => rfl); (case hg => rfl); (case hr => first | (go_simp; done) | (go_simp; rfl)); intro gb295 hg w5 hbox hb; have n0_ := Aside0.mk (below_step (by repeat (first | (with_reducible first | exact HB.out | apply below_alloc | apply pw_below_drewN | apply below_drew1) | exact HB.out)) hb); have n1_ := Aside0.mk (hbox); have n2_ := Aside0.mk ((by rw [hg]; exact (below_size (by repeat (first | (with_reducible first | exact HB.out | apply below_alloc | apply pw_below_drewN | apply below_drew1) | exact HB.out))) : w.heap.size ≤ gb295)); have n3_ := Aside0.mk ((by rw [hg]; exact (below_size (by repeat (first | (with_reducible first | exact HB.out | apply below_alloc | apply pw_below_drewN | apply below_drew1) | exact HB.out))) : w.heap.size ≤ gb295)); clear HB; have HB := n0_; have BK295 := n1_; have GW295 := n2_; have GE295 := n3_; clear n0_ n1_ n2_ n3_; clear hb hbox hg) | (go_at_call 47; (with_reducible refine (impl_own.calls _ _ l0 t296 _ ?side1 ?side2 A3.out).mono ?_); (case side1 => repeat (first | exact (Kd.C_below HR0.out HB.out) | (with_reducible refine Kd.C_alloc ?_ _) | (with_reducible refine Kd.C_drewN ?_ _) | (with_reducible refine Kd.C_drew ?_))); (case side2 => exact HC0.out); rintro e w6 ⟨v297, rfl, ho0, hb⟩; have n0_ := Aside0.mk (Kd.R_lower ho0 (below_size (by repeat (first | (with_reducible first | exact HB.out | apply below_alloc | apply pw_below_drewN | apply below_drew1 | refine below_set ?_ GE295.out) | exact HB.out)))); have n1_ := Aside0.mk (blk_below (g := gb295) (o := .cells #[.int .i64 a1_0, .int .i64 a1_1, .int .i64 a1_2, .int .i64 a1_3] 34 (0, 0)) (by (with_reducible repeat (first | refine blk_drewN ?_ _ | refine blk_drew ?_ | refine blk_alloc ?_ _)); exact BK295.out) hb); have n2_ := Aside0.mk (below_step (by repeat (first | (with_reducible first | exact HB.out | apply below_alloc | apply pw_below_drewN | apply below_drew1 | refine below_set ?_ GE295.out) | exact HB.out)) hb); clear BK295; clear HB; have HO298 := n0_; have BK295 := n1_; have HB := n2_; clear n0_ n1_ n2_; (try clear hb); (try clear hb2); (try clear hk); (try clear hi); (try clear ho0))))
  (try simp only [Act.put, List.setIfInBounds_toArray, List.set_cons_zero, List.set_cons_succ])
  go_cut [50] (fun v50 wc => ∃ (kq : Nat) (x50_3 : Bool), v50 = .bool x50_3 ∧ Aside0 (impl_Word.j0 kq l0 t296 x50_3 a1_0 a1_1 a1_2 a1_3 = some (r1, r2, r3)) ∧ Aside0 (kq ≤ k) ∧ Aside0 (Kd.R (Kd.int .i64) 3 wc w.heap.size (fun _ => True) v297 t296) ∧ Aside0 (wc.heap[gb295]? = some (.cells #[.int .i64 a1_0, .int .i64 a1_1, .int .i64 a1_2, .int .i64 a1_3] 34 (0, 0))) ∧ Aside0 (Below w.heap.size w wc))
  case first =>
    have H := HC4.out
    clear HC4
    replace H := Option.bind_eq_some_iff.mp H
    obtain ⟨t299, A70, H⟩ := H
    replace H : (if t299 = true then ((impl_in.f a1_0 1 5).bind fun t300 => (if t300 = true then ((impl_in.f a1_1 0 (wrap64 ((l0.length : Int) - 1))).bind fun t301 => (if t301 = true then (if a1_0 = 4 then ((impl_isValue.f a1_2).bind fun t302 => (if t302 = true then (if a1_0 = 1 then (impl_Word.j0 k l0 t296 false a1_0 a1_1 a1_2 a1_3) else ((impl_isValue.f a1_3).bind fun t303 => (impl_Word.j0 k l0 t296 (!t303) a1_0 a1_1 a1_2 a1_3))) else (impl_Word.j0 k l0 t296 true a1_0 a1_1 a1_2 a1_3))) else (if a1_0 = 1 then (impl_Word.j0 k l0 t296 false a1_0 a1_1 a1_2 a1_3) else ((impl_isValue.f a1_3).bind fun t304 => (impl_Word.j0 k l0 t296 (!t304) a1_0 a1_1 a1_2 a1_3)))) else (impl_Word.j0 k l0 t296 true a1_0 a1_1 a1_2 a1_3))) else (impl_Word.j0 k l0 t296 true a1_0 a1_1 a1_2 a1_3))) else (impl_Word.j0 k l0 t296 true a1_0 a1_1 a1_2 a1_3)) = some (r1, r2, r3) := H
    have A7 := Aside0.mk A70
    clear A70
    by_cases c8 : t299 = true
    · subst c8
      have H1 : ((impl_in.f a1_0 1 5).bind fun t300 => (if t300 = true then ((impl_in.f a1_1 0 (wrap64 ((l0.length : Int) - 1))).bind fun t301 => (if t301 = true then (if a1_0 = 4 then ((impl_isValue.f a1_2).bind fun t302 => (if t302 = true then (if a1_0 = 1 then (impl_Word.j0 k l0 t296 false a1_0 a1_1 a1_2 a1_3) else ((impl_isValue.f a1_3).bind fun t303 => (impl_Word.j0 k l0 t296 (!t303) a1_0 a1_1 a1_2 a1_3))) else (impl_Word.j0 k l0 t296 true a1_0 a1_1 a1_2 a1_3))) else (if a1_0 = 1 then (impl_Word.j0 k l0 t296 false a1_0 a1_1 a1_2 a1_3) else ((impl_isValue.f a1_3).bind fun t304 => (impl_Word.j0 k l0 t296 (!t304) a1_0 a1_1 a1_2 a1_3)))) else (impl_Word.j0 k l0 t296 true a1_0 a1_1 a1_2 a1_3))) else (impl_Word.j0 k l0 t296 true a1_0 a1_1 a1_2 a1_3))) = some (r1, r2, r3) := by rw [if_pos rfl] at H; exact H
      clear H
      have H := H1
      clear H1
      replace H := Option.bind_eq_some_iff.mp H
      obtain ⟨t300, A90, H⟩ := H
      replace H : (if t300 = true then ((impl_in.f a1_1 0 (wrap64 ((l0.length : Int) - 1))).bind fun t301 => (if t301 = true then (if a1_0 = 4 then ((impl_isValue.f a1_2).bind fun t302 => (if t302 = true then (if a1_0 = 1 then (impl_Word.j0 k l0 t296 false a1_0 a1_1 a1_2 a1_3) else ((impl_isValue.f a1_3).bind fun t303 => (impl_Word.j0 k l0 t296 (!t303) a1_0 a1_1 a1_2 a1_3))) else (impl_Word.j0 k l0 t296 true a1_0 a1_1 a1_2 a1_3))) else (if a1_0 = 1 then (impl_Word.j0 k l0 t296 false a1_0 a1_1 a1_2 a1_3) else ((impl_isValue.f a1_3).bind fun t304 => (impl_Word.j0 k l0 t296 (!t304) a1_0 a1_1 a1_2 a1_3)))) else (impl_Word.j0 k l0 t296 true a1_0 a1_1 a1_2 a1_3))) else (impl_Word.j0 k l0 t296 true a1_0 a1_1 a1_2 a1_3)) = some (r1, r2, r3) := H
      have A9 := Aside0.mk A90
      clear A90
      by_cases c10 : t300 = true
      · subst c10
        have H1 : ((impl_in.f a1_1 0 (wrap64 ((l0.length : Int) - 1))).bind fun t301 => (if t301 = true then (if a1_0 = 4 then ((impl_isValue.f a1_2).bind fun t302 => (if t302 = true then (if a1_0 = 1 then (impl_Word.j0 k l0 t296 false a1_0 a1_1 a1_2 a1_3) else ((impl_isValue.f a1_3).bind fun t303 => (impl_Word.j0 k l0 t296 (!t303) a1_0 a1_1 a1_2 a1_3))) else (impl_Word.j0 k l0 t296 true a1_0 a1_1 a1_2 a1_3))) else (if a1_0 = 1 then (impl_Word.j0 k l0 t296 false a1_0 a1_1 a1_2 a1_3) else ((impl_isValue.f a1_3).bind fun t304 => (impl_Word.j0 k l0 t296 (!t304) a1_0 a1_1 a1_2 a1_3)))) else (impl_Word.j0 k l0 t296 true a1_0 a1_1 a1_2 a1_3))) = some (r1, r2, r3) := by rw [if_pos rfl] at H; exact H
        clear H
        have H := H1
        clear H1
        replace H := Option.bind_eq_some_iff.mp H
        obtain ⟨t301, A110, H⟩ := H
        replace H : (if t301 = true then (if a1_0 = 4 then ((impl_isValue.f a1_2).bind fun t302 => (if t302 = true then (if a1_0 = 1 then (impl_Word.j0 k l0 t296 false a1_0 a1_1 a1_2 a1_3) else ((impl_isValue.f a1_3).bind fun t303 => (impl_Word.j0 k l0 t296 (!t303) a1_0 a1_1 a1_2 a1_3))) else (impl_Word.j0 k l0 t296 true a1_0 a1_1 a1_2 a1_3))) else (if a1_0 = 1 then (impl_Word.j0 k l0 t296 false a1_0 a1_1 a1_2 a1_3) else ((impl_isValue.f a1_3).bind fun t304 => (impl_Word.j0 k l0 t296 (!t304) a1_0 a1_1 a1_2 a1_3)))) else (impl_Word.j0 k l0 t296 true a1_0 a1_1 a1_2 a1_3)) = some (r1, r2, r3) := H
        have A11 := Aside0.mk A110
        clear A110
        by_cases c12 : t301 = true
        · subst c12
          have H1 : (if a1_0 = 4 then ((impl_isValue.f a1_2).bind fun t302 => (if t302 = true then (if a1_0 = 1 then (impl_Word.j0 k l0 t296 false a1_0 a1_1 a1_2 a1_3) else ((impl_isValue.f a1_3).bind fun t303 => (impl_Word.j0 k l0 t296 (!t303) a1_0 a1_1 a1_2 a1_3))) else (impl_Word.j0 k l0 t296 true a1_0 a1_1 a1_2 a1_3))) else (if a1_0 = 1 then (impl_Word.j0 k l0 t296 false a1_0 a1_1 a1_2 a1_3) else ((impl_isValue.f a1_3).bind fun t304 => (impl_Word.j0 k l0 t296 (!t304) a1_0 a1_1 a1_2 a1_3)))) = some (r1, r2, r3) := by rw [if_pos rfl] at H; exact H
          clear H
          have H := H1
          clear H1
          by_cases c13 : a1_0 = 4
          · rw [if_pos c13] at H
            have c13b0 : (a1_0 == 4) = true := beq_iff_eq.mpr c13
            have c13b1 : (a1_0 != 4) = false := bne_eq_false_iff_eq.mpr c13
            clear c13
            (first | rw [c13b0] | (simp only [i64_w, i32_w]; rw [c13b0]) | skip)
            replace H := Option.bind_eq_some_iff.mp H
            obtain ⟨t302, A140, H⟩ := H
            replace H : (if t302 = true then (if a1_0 = 1 then (impl_Word.j0 k l0 t296 false a1_0 a1_1 a1_2 a1_3) else ((impl_isValue.f a1_3).bind fun t303 => (impl_Word.j0 k l0 t296 (!t303) a1_0 a1_1 a1_2 a1_3))) else (impl_Word.j0 k l0 t296 true a1_0 a1_1 a1_2 a1_3)) = some (r1, r2, r3) := H
            have A14 := Aside0.mk A140
            clear A140
            by_cases c15 : t302 = true
            · subst c15
              have H1 : (if a1_0 = 1 then (impl_Word.j0 k l0 t296 false a1_0 a1_1 a1_2 a1_3) else ((impl_isValue.f a1_3).bind fun t303 => (impl_Word.j0 k l0 t296 (!t303) a1_0 a1_1 a1_2 a1_3))) = some (r1, r2, r3) := by rw [if_pos rfl] at H; exact H
              clear H
              have H := H1
              clear H1
              by_cases c16 : a1_0 = 1
              · rw [if_pos c16] at H
                have c16b0 : (a1_0 == 1) = true := beq_iff_eq.mpr c16
                have c16b1 : (a1_0 != 1) = false := bne_eq_false_iff_eq.mpr c16
                clear c16
                have H' := Aside0.mk H
                clear H
                have hcz17_0 : w6.cell? ⟨gb295, 0, none⟩ = some (.int .i64 a1_0) := (blk_cell BK295.out 0).trans rfl
                have hcz17_1 : w6.cell? ⟨gb295, 1, none⟩ = some (.int .i64 a1_1) := (blk_cell BK295.out 1).trans rfl
                have hcz17_2 : w6.cell? ⟨gb295, 2, none⟩ = some (.int .i64 a1_2) := (blk_cell BK295.out 2).trans rfl
                have hcz17_3 : w6.cell? ⟨gb295, 3, none⟩ = some (.int .i64 a1_3) := (blk_cell BK295.out 3).trans rfl
                have hfz17_0 := blk_frozen BK295.out 0
                have hfz17_1 := blk_frozen BK295.out 1
                have hfz17_2 := blk_frozen BK295.out 2
                have hfz17_3 := blk_frozen BK295.out 3
                go_wp2_with (first | (go_at_call 13; (with_reducible refine (impl_MemoryOk.calls k _ _ l0 true _ ?side1 ?side2 A7.out).mono ?_); (case side1 => repeat (first | exact (Kd.C_below HR0.out HB.out) | (with_reducible refine Kd.C_alloc ?_ _) | (with_reducible refine Kd.C_drewN ?_ _) | (with_reducible refine Kd.C_drew ?_))); (case side2 => exact HC0.out); rintro e w' ⟨rfl, ⟨nd, rfl⟩⟩; (try first | exact ⟨rfl, _, World.drewN_drewN _ _ _⟩ | exact ⟨rfl, _, Eq.trans (World.drewN_drewN _ _ _) (congrArg (World.drewN _) (Nat.add_assoc _ _ _))⟩)) | (go_at_call 48; (with_reducible refine (impl_in.calls a1_0 1 5 true _ A9.out).mono ?_); rintro e w' ⟨rfl, ⟨nd, rfl⟩⟩; (try first | exact ⟨rfl, _, World.drewN_drewN _ _ _⟩ | exact ⟨rfl, _, Eq.trans (World.drewN_drewN _ _ _) (congrArg (World.drewN _) (Nat.add_assoc _ _ _))⟩)) | (go_at_call 48; (first | (with_reducible refine (impl_in.calls a1_1 0 (wrap64 ((l0.length : Int) - 1)) true _ A11.out).mono ?_) | (simp only [i64_w, i32_w]; (with_reducible refine (impl_in.calls a1_1 0 (wrap64 ((l0.length : Int) - 1)) true _ A11.out).mono ?_))); rintro e w' ⟨rfl, ⟨nd, rfl⟩⟩; (try first | exact ⟨rfl, _, World.drewN_drewN _ _ _⟩ | exact ⟨rfl, _, Eq.trans (World.drewN_drewN _ _ _) (congrArg (World.drewN _) (Nat.add_assoc _ _ _))⟩)) | (go_at_call 51; (with_reducible refine (impl_isValue.calls a1_2 true _ A14.out).mono ?_); rintro e w' ⟨rfl, ⟨nd, rfl⟩⟩; (try first | exact ⟨rfl, _, World.drewN_drewN _ _ _⟩ | exact ⟨rfl, _, Eq.trans (World.drewN_drewN _ _ _) (congrArg (World.drewN _) (Nat.add_assoc _ _ _))⟩)))
                repeat (go_quiet (first | (go_at_call 13; (with_reducible refine (impl_MemoryOk.calls k _ _ l0 true _ ?side1 ?side2 A7.out).mono ?_); (case side1 => repeat (first | exact (Kd.C_below HR0.out HB.out) | (with_reducible refine Kd.C_alloc ?_ _) | (with_reducible refine Kd.C_drewN ?_ _) | (with_reducible refine Kd.C_drew ?_))); (case side2 => exact HC0.out); rintro e w' ⟨rfl, ⟨nd, rfl⟩⟩; (try first | exact ⟨rfl, _, World.drewN_drewN _ _ _⟩ | exact ⟨rfl, _, Eq.trans (World.drewN_drewN _ _ _) (congrArg (World.drewN _) (Nat.add_assoc _ _ _))⟩)) | (go_at_call 48; (with_reducible refine (impl_in.calls a1_0 1 5 true _ A9.out).mono ?_); rintro e w' ⟨rfl, ⟨nd, rfl⟩⟩; (try first | exact ⟨rfl, _, World.drewN_drewN _ _ _⟩ | exact ⟨rfl, _, Eq.trans (World.drewN_drewN _ _ _) (congrArg (World.drewN _) (Nat.add_assoc _ _ _))⟩)) | (go_at_call 48; (first | (with_reducible refine (impl_in.calls a1_1 0 (wrap64 ((l0.length : Int) - 1)) true _ A11.out).mono ?_) | (simp only [i64_w, i32_w]; (with_reducible refine (impl_in.calls a1_1 0 (wrap64 ((l0.length : Int) - 1)) true _ A11.out).mono ?_))); rintro e w' ⟨rfl, ⟨nd, rfl⟩⟩; (try first | exact ⟨rfl, _, World.drewN_drewN _ _ _⟩ | exact ⟨rfl, _, Eq.trans (World.drewN_drewN _ _ _) (congrArg (World.drewN _) (Nat.add_assoc _ _ _))⟩)) | (go_at_call 51; (with_reducible refine (impl_isValue.calls a1_2 true _ A14.out).mono ?_); rintro e w' ⟨rfl, ⟨nd, rfl⟩⟩; (try first | exact ⟨rfl, _, World.drewN_drewN _ _ _⟩ | exact ⟨rfl, _, Eq.trans (World.drewN_drewN _ _ _) (congrArg (World.drewN _) (Nat.add_assoc _ _ _))⟩))); try go_wp2_with (first | (go_at_call 13; (with_reducible refine (impl_MemoryOk.calls k _ _ l0 true _ ?side1 ?side2 A7.out).mono ?_); (case side1 => repeat (first | exact (Kd.C_below HR0.out HB.out) | (with_reducible refine Kd.C_alloc ?_ _) | (with_reducible refine Kd.C_drewN ?_ _) | (with_reducible refine Kd.C_drew ?_))); (case side2 => exact HC0.out); rintro e w' ⟨rfl, ⟨nd, rfl⟩⟩; (try first | exact ⟨rfl, _, World.drewN_drewN _ _ _⟩ | exact ⟨rfl, _, Eq.trans (World.drewN_drewN _ _ _) (congrArg (World.drewN _) (Nat.add_assoc _ _ _))⟩)) | (go_at_call 48; (with_reducible refine (impl_in.calls a1_0 1 5 true _ A9.out).mono ?_); rintro e w' ⟨rfl, ⟨nd, rfl⟩⟩; (try first | exact ⟨rfl, _, World.drewN_drewN _ _ _⟩ | exact ⟨rfl, _, Eq.trans (World.drewN_drewN _ _ _) (congrArg (World.drewN _) (Nat.add_assoc _ _ _))⟩)) | (go_at_call 48; (first | (with_reducible refine (impl_in.calls a1_1 0 (wrap64 ((l0.length : Int) - 1)) true _ A11.out).mono ?_) | (simp only [i64_w, i32_w]; (with_reducible refine (impl_in.calls a1_1 0 (wrap64 ((l0.length : Int) - 1)) true _ A11.out).mono ?_))); rintro e w' ⟨rfl, ⟨nd, rfl⟩⟩; (try first | exact ⟨rfl, _, World.drewN_drewN _ _ _⟩ | exact ⟨rfl, _, Eq.trans (World.drewN_drewN _ _ _) (congrArg (World.drewN _) (Nat.add_assoc _ _ _))⟩)) | (go_at_call 51; (with_reducible refine (impl_isValue.calls a1_2 true _ A14.out).mono ?_); rintro e w' ⟨rfl, ⟨nd, rfl⟩⟩; (try first | exact ⟨rfl, _, World.drewN_drewN _ _ _⟩ | exact ⟨rfl, _, Eq.trans (World.drewN_drewN _ _ _) (congrArg (World.drewN _) (Nat.add_assoc _ _ _))⟩))))
                go_meet
                case rel => exact ⟨_, (false), (by first | rfl | (simp; done) | (simp [*]; done)), H', ⟨by first | omega | exact Nat.le_refl _⟩, ⟨by (with_reducible repeat (first | apply Kd.R_alloc | apply Kd.R_drewN | apply Kd.R_drew)); exact HO298.out⟩, ⟨by (with_reducible repeat (first | refine blk_drewN ?_ _ | refine blk_drew ?_ | refine blk_alloc ?_ _)); exact BK295.out⟩, ⟨by repeat (first | (with_reducible first | exact HB.out | apply below_alloc | apply pw_below_drewN | apply below_drew1 | refine below_set ?_ GE295.out) | exact HB.out)⟩⟩
              · rw [if_neg c16] at H
                have c16b0 : (a1_0 == 1) = false := beq_eq_false_iff_ne.mpr c16
                have c16b1 : (a1_0 != 1) = true := bne_iff_ne.mpr c16
                replace H := Option.bind_eq_some_iff.mp H
                obtain ⟨t303, A180, H⟩ := H
                replace H : (impl_Word.j0 k l0 t296 (!t303) a1_0 a1_1 a1_2 a1_3) = some (r1, r2, r3) := H
                have A18 := Aside0.mk A180
                clear A180
                have H' := Aside0.mk H
                clear H
                have hcz19_0 : w6.cell? ⟨gb295, 0, none⟩ = some (.int .i64 a1_0) := (blk_cell BK295.out 0).trans rfl
                have hcz19_1 : w6.cell? ⟨gb295, 1, none⟩ = some (.int .i64 a1_1) := (blk_cell BK295.out 1).trans rfl
                have hcz19_2 : w6.cell? ⟨gb295, 2, none⟩ = some (.int .i64 a1_2) := (blk_cell BK295.out 2).trans rfl
                have hcz19_3 : w6.cell? ⟨gb295, 3, none⟩ = some (.int .i64 a1_3) := (blk_cell BK295.out 3).trans rfl
                have hfz19_0 := blk_frozen BK295.out 0
                have hfz19_1 := blk_frozen BK295.out 1
                have hfz19_2 := blk_frozen BK295.out 2
                have hfz19_3 := blk_frozen BK295.out 3
                go_wp2_with (first | (go_at_call 13; (with_reducible refine (impl_MemoryOk.calls k _ _ l0 true _ ?side1 ?side2 A7.out).mono ?_); (case side1 => repeat (first | exact (Kd.C_below HR0.out HB.out) | (with_reducible refine Kd.C_alloc ?_ _) | (with_reducible refine Kd.C_drewN ?_ _) | (with_reducible refine Kd.C_drew ?_))); (case side2 => exact HC0.out); rintro e w' ⟨rfl, ⟨nd, rfl⟩⟩; (try first | exact ⟨rfl, _, World.drewN_drewN _ _ _⟩ | exact ⟨rfl, _, Eq.trans (World.drewN_drewN _ _ _) (congrArg (World.drewN _) (Nat.add_assoc _ _ _))⟩)) | (go_at_call 48; (with_reducible refine (impl_in.calls a1_0 1 5 true _ A9.out).mono ?_); rintro e w' ⟨rfl, ⟨nd, rfl⟩⟩; (try first | exact ⟨rfl, _, World.drewN_drewN _ _ _⟩ | exact ⟨rfl, _, Eq.trans (World.drewN_drewN _ _ _) (congrArg (World.drewN _) (Nat.add_assoc _ _ _))⟩)) | (go_at_call 48; (first | (with_reducible refine (impl_in.calls a1_1 0 (wrap64 ((l0.length : Int) - 1)) true _ A11.out).mono ?_) | (simp only [i64_w, i32_w]; (with_reducible refine (impl_in.calls a1_1 0 (wrap64 ((l0.length : Int) - 1)) true _ A11.out).mono ?_))); rintro e w' ⟨rfl, ⟨nd, rfl⟩⟩; (try first | exact ⟨rfl, _, World.drewN_drewN _ _ _⟩ | exact ⟨rfl, _, Eq.trans (World.drewN_drewN _ _ _) (congrArg (World.drewN _) (Nat.add_assoc _ _ _))⟩)) | (go_at_call 51; (with_reducible refine (impl_isValue.calls a1_2 true _ A14.out).mono ?_); rintro e w' ⟨rfl, ⟨nd, rfl⟩⟩; (try first | exact ⟨rfl, _, World.drewN_drewN _ _ _⟩ | exact ⟨rfl, _, Eq.trans (World.drewN_drewN _ _ _) (congrArg (World.drewN _) (Nat.add_assoc _ _ _))⟩)) | (go_at_call 51; (with_reducible refine (impl_isValue.calls a1_3 t303 _ A18.out).mono ?_); rintro e w' ⟨rfl, ⟨nd, rfl⟩⟩; (try first | exact ⟨rfl, _, World.drewN_drewN _ _ _⟩ | exact ⟨rfl, _, Eq.trans (World.drewN_drewN _ _ _) (congrArg (World.drewN _) (Nat.add_assoc _ _ _))⟩)))
                repeat (go_quiet (first | (go_at_call 13; (with_reducible refine (impl_MemoryOk.calls k _ _ l0 true _ ?side1 ?side2 A7.out).mono ?_); (case side1 => repeat (first | exact (Kd.C_below HR0.out HB.out) | (with_reducible refine Kd.C_alloc ?_ _) | (with_reducible refine Kd.C_drewN ?_ _) | (with_reducible refine Kd.C_drew ?_))); (case side2 => exact HC0.out); rintro e w' ⟨rfl, ⟨nd, rfl⟩⟩; (try first | exact ⟨rfl, _, World.drewN_drewN _ _ _⟩ | exact ⟨rfl, _, Eq.trans (World.drewN_drewN _ _ _) (congrArg (World.drewN _) (Nat.add_assoc _ _ _))⟩)) | (go_at_call 48; (with_reducible refine (impl_in.calls a1_0 1 5 true _ A9.out).mono ?_); rintro e w' ⟨rfl, ⟨nd, rfl⟩⟩; (try first | exact ⟨rfl, _, World.drewN_drewN _ _ _⟩ | exact ⟨rfl, _, Eq.trans (World.drewN_drewN _ _ _) (congrArg (World.drewN _) (Nat.add_assoc _ _ _))⟩)) | (go_at_call 48; (first | (with_reducible refine (impl_in.calls a1_1 0 (wrap64 ((l0.length : Int) - 1)) true _ A11.out).mono ?_) | (simp only [i64_w, i32_w]; (with_reducible refine (impl_in.calls a1_1 0 (wrap64 ((l0.length : Int) - 1)) true _ A11.out).mono ?_))); rintro e w' ⟨rfl, ⟨nd, rfl⟩⟩; (try first | exact ⟨rfl, _, World.drewN_drewN _ _ _⟩ | exact ⟨rfl, _, Eq.trans (World.drewN_drewN _ _ _) (congrArg (World.drewN _) (Nat.add_assoc _ _ _))⟩)) | (go_at_call 51; (with_reducible refine (impl_isValue.calls a1_2 true _ A14.out).mono ?_); rintro e w' ⟨rfl, ⟨nd, rfl⟩⟩; (try first | exact ⟨rfl, _, World.drewN_drewN _ _ _⟩ | exact ⟨rfl, _, Eq.trans (World.drewN_drewN _ _ _) (congrArg (World.drewN _) (Nat.add_assoc _ _ _))⟩)) | (go_at_call 51; (with_reducible refine (impl_isValue.calls a1_3 t303 _ A18.out).mono ?_); rintro e w' ⟨rfl, ⟨nd, rfl⟩⟩; (try first | exact ⟨rfl, _, World.drewN_drewN _ _ _⟩ | exact ⟨rfl, _, Eq.trans (World.drewN_drewN _ _ _) (congrArg (World.drewN _) (Nat.add_assoc _ _ _))⟩))); try go_wp2_with (first | (go_at_call 13; (with_reducible refine (impl_MemoryOk.calls k _ _ l0 true _ ?side1 ?side2 A7.out).mono ?_); (case side1 => repeat (first | exact (Kd.C_below HR0.out HB.out) | (with_reducible refine Kd.C_alloc ?_ _) | (with_reducible refine Kd.C_drewN ?_ _) | (with_reducible refine Kd.C_drew ?_))); (case side2 => exact HC0.out); rintro e w' ⟨rfl, ⟨nd, rfl⟩⟩; (try first | exact ⟨rfl, _, World.drewN_drewN _ _ _⟩ | exact ⟨rfl, _, Eq.trans (World.drewN_drewN _ _ _) (congrArg (World.drewN _) (Nat.add_assoc _ _ _))⟩)) | (go_at_call 48; (with_reducible refine (impl_in.calls a1_0 1 5 true _ A9.out).mono ?_); rintro e w' ⟨rfl, ⟨nd, rfl⟩⟩; (try first | exact ⟨rfl, _, World.drewN_drewN _ _ _⟩ | exact ⟨rfl, _, Eq.trans (World.drewN_drewN _ _ _) (congrArg (World.drewN _) (Nat.add_assoc _ _ _))⟩)) | (go_at_call 48; (first | (with_reducible refine (impl_in.calls a1_1 0 (wrap64 ((l0.length : Int) - 1)) true _ A11.out).mono ?_) | (simp only [i64_w, i32_w]; (with_reducible refine (impl_in.calls a1_1 0 (wrap64 ((l0.length : Int) - 1)) true _ A11.out).mono ?_))); rintro e w' ⟨rfl, ⟨nd, rfl⟩⟩; (try first | exact ⟨rfl, _, World.drewN_drewN _ _ _⟩ | exact ⟨rfl, _, Eq.trans (World.drewN_drewN _ _ _) (congrArg (World.drewN _) (Nat.add_assoc _ _ _))⟩)) | (go_at_call 51; (with_reducible refine (impl_isValue.calls a1_2 true _ A14.out).mono ?_); rintro e w' ⟨rfl, ⟨nd, rfl⟩⟩; (try first | exact ⟨rfl, _, World.drewN_drewN _ _ _⟩ | exact ⟨rfl, _, Eq.trans (World.drewN_drewN _ _ _) (congrArg (World.drewN _) (Nat.add_assoc _ _ _))⟩)) | (go_at_call 51; (with_reducible refine (impl_isValue.calls a1_3 t303 _ A18.out).mono ?_); rintro e w' ⟨rfl, ⟨nd, rfl⟩⟩; (try first | exact ⟨rfl, _, World.drewN_drewN _ _ _⟩ | exact ⟨rfl, _, Eq.trans (World.drewN_drewN _ _ _) (congrArg (World.drewN _) (Nat.add_assoc _ _ _))⟩))))
                go_meet
                case rel => exact ⟨_, (!t303), (by first | rfl | (simp; done) | (simp [*]; done)), H', ⟨by first | omega | exact Nat.le_refl _⟩, ⟨by (with_reducible repeat (first | apply Kd.R_alloc | apply Kd.R_drewN | apply Kd.R_drew)); exact HO298.out⟩, ⟨by (with_reducible repeat (first | refine blk_drewN ?_ _ | refine blk_drew ?_ | refine blk_alloc ?_ _)); exact BK295.out⟩, ⟨by repeat (first | (with_reducible first | exact HB.out | apply below_alloc | apply pw_below_drewN | apply below_drew1 | refine below_set ?_ GE295.out) | exact HB.out)⟩⟩
            · replace c15 := Bool.eq_false_iff.mpr c15
              subst c15
              have H1 : (impl_Word.j0 k l0 t296 true a1_0 a1_1 a1_2 a1_3) = some (r1, r2, r3) := by rw [if_neg (show ¬ (false = true) by decide)] at H; exact H
              clear H
              have H := H1
              clear H1
              have H' := Aside0.mk H
              clear H
              have hcz20_0 : w6.cell? ⟨gb295, 0, none⟩ = some (.int .i64 a1_0) := (blk_cell BK295.out 0).trans rfl
              have hcz20_1 : w6.cell? ⟨gb295, 1, none⟩ = some (.int .i64 a1_1) := (blk_cell BK295.out 1).trans rfl
              have hcz20_2 : w6.cell? ⟨gb295, 2, none⟩ = some (.int .i64 a1_2) := (blk_cell BK295.out 2).trans rfl
              have hcz20_3 : w6.cell? ⟨gb295, 3, none⟩ = some (.int .i64 a1_3) := (blk_cell BK295.out 3).trans rfl
              have hfz20_0 := blk_frozen BK295.out 0
              have hfz20_1 := blk_frozen BK295.out 1
              have hfz20_2 := blk_frozen BK295.out 2
              have hfz20_3 := blk_frozen BK295.out 3
              go_wp2_with (first | (go_at_call 13; (with_reducible refine (impl_MemoryOk.calls k _ _ l0 true _ ?side1 ?side2 A7.out).mono ?_); (case side1 => repeat (first | exact (Kd.C_below HR0.out HB.out) | (with_reducible refine Kd.C_alloc ?_ _) | (with_reducible refine Kd.C_drewN ?_ _) | (with_reducible refine Kd.C_drew ?_))); (case side2 => exact HC0.out); rintro e w' ⟨rfl, ⟨nd, rfl⟩⟩; (try first | exact ⟨rfl, _, World.drewN_drewN _ _ _⟩ | exact ⟨rfl, _, Eq.trans (World.drewN_drewN _ _ _) (congrArg (World.drewN _) (Nat.add_assoc _ _ _))⟩)) | (go_at_call 48; (with_reducible refine (impl_in.calls a1_0 1 5 true _ A9.out).mono ?_); rintro e w' ⟨rfl, ⟨nd, rfl⟩⟩; (try first | exact ⟨rfl, _, World.drewN_drewN _ _ _⟩ | exact ⟨rfl, _, Eq.trans (World.drewN_drewN _ _ _) (congrArg (World.drewN _) (Nat.add_assoc _ _ _))⟩)) | (go_at_call 48; (first | (with_reducible refine (impl_in.calls a1_1 0 (wrap64 ((l0.length : Int) - 1)) true _ A11.out).mono ?_) | (simp only [i64_w, i32_w]; (with_reducible refine (impl_in.calls a1_1 0 (wrap64 ((l0.length : Int) - 1)) true _ A11.out).mono ?_))); rintro e w' ⟨rfl, ⟨nd, rfl⟩⟩; (try first | exact ⟨rfl, _, World.drewN_drewN _ _ _⟩ | exact ⟨rfl, _, Eq.trans (World.drewN_drewN _ _ _) (congrArg (World.drewN _) (Nat.add_assoc _ _ _))⟩)) | (go_at_call 51; (with_reducible refine (impl_isValue.calls a1_2 false _ A14.out).mono ?_); rintro e w' ⟨rfl, ⟨nd, rfl⟩⟩; (try first | exact ⟨rfl, _, World.drewN_drewN _ _ _⟩ | exact ⟨rfl, _, Eq.trans (World.drewN_drewN _ _ _) (congrArg (World.drewN _) (Nat.add_assoc _ _ _))⟩)))
              repeat (go_quiet (first | (go_at_call 13; (with_reducible refine (impl_MemoryOk.calls k _ _ l0 true _ ?side1 ?side2 A7.out).mono ?_); (case side1 => repeat (first | exact (Kd.C_below HR0.out HB.out) | (with_reducible refine Kd.C_alloc ?_ _) | (with_reducible refine Kd.C_drewN ?_ _) | (with_reducible refine Kd.C_drew ?_))); (case side2 => exact HC0.out); rintro e w' ⟨rfl, ⟨nd, rfl⟩⟩; (try first | exact ⟨rfl, _, World.drewN_drewN _ _ _⟩ | exact ⟨rfl, _, Eq.trans (World.drewN_drewN _ _ _) (congrArg (World.drewN _) (Nat.add_assoc _ _ _))⟩)) | (go_at_call 48; (with_reducible refine (impl_in.calls a1_0 1 5 true _ A9.out).mono ?_); rintro e w' ⟨rfl, ⟨nd, rfl⟩⟩; (try first | exact ⟨rfl, _, World.drewN_drewN _ _ _⟩ | exact ⟨rfl, _, Eq.trans (World.drewN_drewN _ _ _) (congrArg (World.drewN _) (Nat.add_assoc _ _ _))⟩)) | (go_at_call 48; (first | (with_reducible refine (impl_in.calls a1_1 0 (wrap64 ((l0.length : Int) - 1)) true _ A11.out).mono ?_) | (simp only [i64_w, i32_w]; (with_reducible refine (impl_in.calls a1_1 0 (wrap64 ((l0.length : Int) - 1)) true _ A11.out).mono ?_))); rintro e w' ⟨rfl, ⟨nd, rfl⟩⟩; (try first | exact ⟨rfl, _, World.drewN_drewN _ _ _⟩ | exact ⟨rfl, _, Eq.trans (World.drewN_drewN _ _ _) (congrArg (World.drewN _) (Nat.add_assoc _ _ _))⟩)) | (go_at_call 51; (with_reducible refine (impl_isValue.calls a1_2 false _ A14.out).mono ?_); rintro e w' ⟨rfl, ⟨nd, rfl⟩⟩; (try first | exact ⟨rfl, _, World.drewN_drewN _ _ _⟩ | exact ⟨rfl, _, Eq.trans (World.drewN_drewN _ _ _) (congrArg (World.drewN _) (Nat.add_assoc _ _ _))⟩))); try go_wp2_with (first | (go_at_call 13; (with_reducible refine (impl_MemoryOk.calls k _ _ l0 true _ ?side1 ?side2 A7.out).mono ?_); (case side1 => repeat (first | exact (Kd.C_below HR0.out HB.out) | (with_reducible refine Kd.C_alloc ?_ _) | (with_reducible refine Kd.C_drewN ?_ _) | (with_reducible refine Kd.C_drew ?_))); (case side2 => exact HC0.out); rintro e w' ⟨rfl, ⟨nd, rfl⟩⟩; (try first | exact ⟨rfl, _, World.drewN_drewN _ _ _⟩ | exact ⟨rfl, _, Eq.trans (World.drewN_drewN _ _ _) (congrArg (World.drewN _) (Nat.add_assoc _ _ _))⟩)) | (go_at_call 48; (with_reducible refine (impl_in.calls a1_0 1 5 true _ A9.out).mono ?_); rintro e w' ⟨rfl, ⟨nd, rfl⟩⟩; (try first | exact ⟨rfl, _, World.drewN_drewN _ _ _⟩ | exact ⟨rfl, _, Eq.trans (World.drewN_drewN _ _ _) (congrArg (World.drewN _) (Nat.add_assoc _ _ _))⟩)) | (go_at_call 48; (first | (with_reducible refine (impl_in.calls a1_1 0 (wrap64 ((l0.length : Int) - 1)) true _ A11.out).mono ?_) | (simp only [i64_w, i32_w]; (with_reducible refine (impl_in.calls a1_1 0 (wrap64 ((l0.length : Int) - 1)) true _ A11.out).mono ?_))); rintro e w' ⟨rfl, ⟨nd, rfl⟩⟩; (try first | exact ⟨rfl, _, World.drewN_drewN _ _ _⟩ | exact ⟨rfl, _, Eq.trans (World.drewN_drewN _ _ _) (congrArg (World.drewN _) (Nat.add_assoc _ _ _))⟩)) | (go_at_call 51; (with_reducible refine (impl_isValue.calls a1_2 false _ A14.out).mono ?_); rintro e w' ⟨rfl, ⟨nd, rfl⟩⟩; (try first | exact ⟨rfl, _, World.drewN_drewN _ _ _⟩ | exact ⟨rfl, _, Eq.trans (World.drewN_drewN _ _ _) (congrArg (World.drewN _) (Nat.add_assoc _ _ _))⟩))))
              go_meet
              case rel => exact ⟨_, (true), (by first | rfl | (simp; done) | (simp [*]; done)), H', ⟨by first | omega | exact Nat.le_refl _⟩, ⟨by (with_reducible repeat (first | apply Kd.R_alloc | apply Kd.R_drewN | apply Kd.R_drew)); exact HO298.out⟩, ⟨by (with_reducible repeat (first | refine blk_drewN ?_ _ | refine blk_drew ?_ | refine blk_alloc ?_ _)); exact BK295.out⟩, ⟨by repeat (first | (with_reducible first | exact HB.out | apply below_alloc | apply pw_below_drewN | apply below_drew1 | refine below_set ?_ GE295.out) | exact HB.out)⟩⟩
          · rw [if_neg c13] at H
            have c13b0 : (a1_0 == 4) = false := beq_eq_false_iff_ne.mpr c13
            have c13b1 : (a1_0 != 4) = true := bne_iff_ne.mpr c13
            (first | rw [c13b0] | (simp only [i64_w, i32_w]; rw [c13b0]) | skip)
            by_cases c21 : a1_0 = 1
            · rw [if_pos c21] at H
              have c21b0 : (a1_0 == 1) = true := beq_iff_eq.mpr c21
              have c21b1 : (a1_0 != 1) = false := bne_eq_false_iff_eq.mpr c21
              clear c21
              have H' := Aside0.mk H
              clear H
              have hcz22_0 : w6.cell? ⟨gb295, 0, none⟩ = some (.int .i64 a1_0) := (blk_cell BK295.out 0).trans rfl
              have hcz22_1 : w6.cell? ⟨gb295, 1, none⟩ = some (.int .i64 a1_1) := (blk_cell BK295.out 1).trans rfl
              have hcz22_2 : w6.cell? ⟨gb295, 2, none⟩ = some (.int .i64 a1_2) := (blk_cell BK295.out 2).trans rfl
              have hcz22_3 : w6.cell? ⟨gb295, 3, none⟩ = some (.int .i64 a1_3) := (blk_cell BK295.out 3).trans rfl
              have hfz22_0 := blk_frozen BK295.out 0
              have hfz22_1 := blk_frozen BK295.out 1
              have hfz22_2 := blk_frozen BK295.out 2
              have hfz22_3 := blk_frozen BK295.out 3
              go_wp2_with (first | (go_at_call 13; (with_reducible refine (impl_MemoryOk.calls k _ _ l0 true _ ?side1 ?side2 A7.out).mono ?_); (case side1 => repeat (first | exact (Kd.C_below HR0.out HB.out) | (with_reducible refine Kd.C_alloc ?_ _) | (with_reducible refine Kd.C_drewN ?_ _) | (with_reducible refine Kd.C_drew ?_))); (case side2 => exact HC0.out); rintro e w' ⟨rfl, ⟨nd, rfl⟩⟩; (try first | exact ⟨rfl, _, World.drewN_drewN _ _ _⟩ | exact ⟨rfl, _, Eq.trans (World.drewN_drewN _ _ _) (congrArg (World.drewN _) (Nat.add_assoc _ _ _))⟩)) | (go_at_call 48; (with_reducible refine (impl_in.calls a1_0 1 5 true _ A9.out).mono ?_); rintro e w' ⟨rfl, ⟨nd, rfl⟩⟩; (try first | exact ⟨rfl, _, World.drewN_drewN _ _ _⟩ | exact ⟨rfl, _, Eq.trans (World.drewN_drewN _ _ _) (congrArg (World.drewN _) (Nat.add_assoc _ _ _))⟩)) | (go_at_call 48; (first | (with_reducible refine (impl_in.calls a1_1 0 (wrap64 ((l0.length : Int) - 1)) true _ A11.out).mono ?_) | (simp only [i64_w, i32_w]; (with_reducible refine (impl_in.calls a1_1 0 (wrap64 ((l0.length : Int) - 1)) true _ A11.out).mono ?_))); rintro e w' ⟨rfl, ⟨nd, rfl⟩⟩; (try first | exact ⟨rfl, _, World.drewN_drewN _ _ _⟩ | exact ⟨rfl, _, Eq.trans (World.drewN_drewN _ _ _) (congrArg (World.drewN _) (Nat.add_assoc _ _ _))⟩)))
              repeat (go_quiet (first | (go_at_call 13; (with_reducible refine (impl_MemoryOk.calls k _ _ l0 true _ ?side1 ?side2 A7.out).mono ?_); (case side1 => repeat (first | exact (Kd.C_below HR0.out HB.out) | (with_reducible refine Kd.C_alloc ?_ _) | (with_reducible refine Kd.C_drewN ?_ _) | (with_reducible refine Kd.C_drew ?_))); (case side2 => exact HC0.out); rintro e w' ⟨rfl, ⟨nd, rfl⟩⟩; (try first | exact ⟨rfl, _, World.drewN_drewN _ _ _⟩ | exact ⟨rfl, _, Eq.trans (World.drewN_drewN _ _ _) (congrArg (World.drewN _) (Nat.add_assoc _ _ _))⟩)) | (go_at_call 48; (with_reducible refine (impl_in.calls a1_0 1 5 true _ A9.out).mono ?_); rintro e w' ⟨rfl, ⟨nd, rfl⟩⟩; (try first | exact ⟨rfl, _, World.drewN_drewN _ _ _⟩ | exact ⟨rfl, _, Eq.trans (World.drewN_drewN _ _ _) (congrArg (World.drewN _) (Nat.add_assoc _ _ _))⟩)) | (go_at_call 48; (first | (with_reducible refine (impl_in.calls a1_1 0 (wrap64 ((l0.length : Int) - 1)) true _ A11.out).mono ?_) | (simp only [i64_w, i32_w]; (with_reducible refine (impl_in.calls a1_1 0 (wrap64 ((l0.length : Int) - 1)) true _ A11.out).mono ?_))); rintro e w' ⟨rfl, ⟨nd, rfl⟩⟩; (try first | exact ⟨rfl, _, World.drewN_drewN _ _ _⟩ | exact ⟨rfl, _, Eq.trans (World.drewN_drewN _ _ _) (congrArg (World.drewN _) (Nat.add_assoc _ _ _))⟩))); try go_wp2_with (first | (go_at_call 13; (with_reducible refine (impl_MemoryOk.calls k _ _ l0 true _ ?side1 ?side2 A7.out).mono ?_); (case side1 => repeat (first | exact (Kd.C_below HR0.out HB.out) | (with_reducible refine Kd.C_alloc ?_ _) | (with_reducible refine Kd.C_drewN ?_ _) | (with_reducible refine Kd.C_drew ?_))); (case side2 => exact HC0.out); rintro e w' ⟨rfl, ⟨nd, rfl⟩⟩; (try first | exact ⟨rfl, _, World.drewN_drewN _ _ _⟩ | exact ⟨rfl, _, Eq.trans (World.drewN_drewN _ _ _) (congrArg (World.drewN _) (Nat.add_assoc _ _ _))⟩)) | (go_at_call 48; (with_reducible refine (impl_in.calls a1_0 1 5 true _ A9.out).mono ?_); rintro e w' ⟨rfl, ⟨nd, rfl⟩⟩; (try first | exact ⟨rfl, _, World.drewN_drewN _ _ _⟩ | exact ⟨rfl, _, Eq.trans (World.drewN_drewN _ _ _) (congrArg (World.drewN _) (Nat.add_assoc _ _ _))⟩)) | (go_at_call 48; (first | (with_reducible refine (impl_in.calls a1_1 0 (wrap64 ((l0.length : Int) - 1)) true _ A11.out).mono ?_) | (simp only [i64_w, i32_w]; (with_reducible refine (impl_in.calls a1_1 0 (wrap64 ((l0.length : Int) - 1)) true _ A11.out).mono ?_))); rintro e w' ⟨rfl, ⟨nd, rfl⟩⟩; (try first | exact ⟨rfl, _, World.drewN_drewN _ _ _⟩ | exact ⟨rfl, _, Eq.trans (World.drewN_drewN _ _ _) (congrArg (World.drewN _) (Nat.add_assoc _ _ _))⟩))))
              go_meet
              case rel => exact ⟨_, (false), (by first | rfl | (simp; done) | (simp [*]; done)), H', ⟨by first | omega | exact Nat.le_refl _⟩, ⟨by (with_reducible repeat (first | apply Kd.R_alloc | apply Kd.R_drewN | apply Kd.R_drew)); exact HO298.out⟩, ⟨by (with_reducible repeat (first | refine blk_drewN ?_ _ | refine blk_drew ?_ | refine blk_alloc ?_ _)); exact BK295.out⟩, ⟨by repeat (first | (with_reducible first | exact HB.out | apply below_alloc | apply pw_below_drewN | apply below_drew1 | refine below_set ?_ GE295.out) | exact HB.out)⟩⟩
            · rw [if_neg c21] at H
              have c21b0 : (a1_0 == 1) = false := beq_eq_false_iff_ne.mpr c21
              have c21b1 : (a1_0 != 1) = true := bne_iff_ne.mpr c21
              replace H := Option.bind_eq_some_iff.mp H
              obtain ⟨t304, A230, H⟩ := H
              replace H : (impl_Word.j0 k l0 t296 (!t304) a1_0 a1_1 a1_2 a1_3) = some (r1, r2, r3) := H
              have A23 := Aside0.mk A230
              clear A230
              have H' := Aside0.mk H
              clear H
              have hcz24_0 : w6.cell? ⟨gb295, 0, none⟩ = some (.int .i64 a1_0) := (blk_cell BK295.out 0).trans rfl
              have hcz24_1 : w6.cell? ⟨gb295, 1, none⟩ = some (.int .i64 a1_1) := (blk_cell BK295.out 1).trans rfl
              have hcz24_2 : w6.cell? ⟨gb295, 2, none⟩ = some (.int .i64 a1_2) := (blk_cell BK295.out 2).trans rfl
              have hcz24_3 : w6.cell? ⟨gb295, 3, none⟩ = some (.int .i64 a1_3) := (blk_cell BK295.out 3).trans rfl
              have hfz24_0 := blk_frozen BK295.out 0
              have hfz24_1 := blk_frozen BK295.out 1
              have hfz24_2 := blk_frozen BK295.out 2
              have hfz24_3 := blk_frozen BK295.out 3
              go_wp2_with (first | (go_at_call 13; (with_reducible refine (impl_MemoryOk.calls k _ _ l0 true _ ?side1 ?side2 A7.out).mono ?_); (case side1 => repeat (first | exact (Kd.C_below HR0.out HB.out) | (with_reducible refine Kd.C_alloc ?_ _) | (with_reducible refine Kd.C_drewN ?_ _) | (with_reducible refine Kd.C_drew ?_))); (case side2 => exact HC0.out); rintro e w' ⟨rfl, ⟨nd, rfl⟩⟩; (try first | exact ⟨rfl, _, World.drewN_drewN _ _ _⟩ | exact ⟨rfl, _, Eq.trans (World.drewN_drewN _ _ _) (congrArg (World.drewN _) (Nat.add_assoc _ _ _))⟩)) | (go_at_call 48; (with_reducible refine (impl_in.calls a1_0 1 5 true _ A9.out).mono ?_); rintro e w' ⟨rfl, ⟨nd, rfl⟩⟩; (try first | exact ⟨rfl, _, World.drewN_drewN _ _ _⟩ | exact ⟨rfl, _, Eq.trans (World.drewN_drewN _ _ _) (congrArg (World.drewN _) (Nat.add_assoc _ _ _))⟩)) | (go_at_call 48; (first | (with_reducible refine (impl_in.calls a1_1 0 (wrap64 ((l0.length : Int) - 1)) true _ A11.out).mono ?_) | (simp only [i64_w, i32_w]; (with_reducible refine (impl_in.calls a1_1 0 (wrap64 ((l0.length : Int) - 1)) true _ A11.out).mono ?_))); rintro e w' ⟨rfl, ⟨nd, rfl⟩⟩; (try first | exact ⟨rfl, _, World.drewN_drewN _ _ _⟩ | exact ⟨rfl, _, Eq.trans (World.drewN_drewN _ _ _) (congrArg (World.drewN _) (Nat.add_assoc _ _ _))⟩)) | (go_at_call 51; (with_reducible refine (impl_isValue.calls a1_3 t304 _ A23.out).mono ?_); rintro e w' ⟨rfl, ⟨nd, rfl⟩⟩; (try first | exact ⟨rfl, _, World.drewN_drewN _ _ _⟩ | exact ⟨rfl, _, Eq.trans (World.drewN_drewN _ _ _) (congrArg (World.drewN _) (Nat.add_assoc _ _ _))⟩)))
              repeat (go_quiet (first | (go_at_call 13; (with_reducible refine (impl_MemoryOk.calls k _ _ l0 true _ ?side1 ?side2 A7.out).mono ?_); (case side1 => repeat (first | exact (Kd.C_below HR0.out HB.out) | (with_reducible refine Kd.C_alloc ?_ _) | (with_reducible refine Kd.C_drewN ?_ _) | (with_reducible refine Kd.C_drew ?_))); (case side2 => exact HC0.out); rintro e w' ⟨rfl, ⟨nd, rfl⟩⟩; (try first | exact ⟨rfl, _, World.drewN_drewN _ _ _⟩ | exact ⟨rfl, _, Eq.trans (World.drewN_drewN _ _ _) (congrArg (World.drewN _) (Nat.add_assoc _ _ _))⟩)) | (go_at_call 48; (with_reducible refine (impl_in.calls a1_0 1 5 true _ A9.out).mono ?_); rintro e w' ⟨rfl, ⟨nd, rfl⟩⟩; (try first | exact ⟨rfl, _, World.drewN_drewN _ _ _⟩ | exact ⟨rfl, _, Eq.trans (World.drewN_drewN _ _ _) (congrArg (World.drewN _) (Nat.add_assoc _ _ _))⟩)) | (go_at_call 48; (first | (with_reducible refine (impl_in.calls a1_1 0 (wrap64 ((l0.length : Int) - 1)) true _ A11.out).mono ?_) | (simp only [i64_w, i32_w]; (with_reducible refine (impl_in.calls a1_1 0 (wrap64 ((l0.length : Int) - 1)) true _ A11.out).mono ?_))); rintro e w' ⟨rfl, ⟨nd, rfl⟩⟩; (try first | exact ⟨rfl, _, World.drewN_drewN _ _ _⟩ | exact ⟨rfl, _, Eq.trans (World.drewN_drewN _ _ _) (congrArg (World.drewN _) (Nat.add_assoc _ _ _))⟩)) | (go_at_call 51; (with_reducible refine (impl_isValue.calls a1_3 t304 _ A23.out).mono ?_); rintro e w' ⟨rfl, ⟨nd, rfl⟩⟩; (try first | exact ⟨rfl, _, World.drewN_drewN _ _ _⟩ | exact ⟨rfl, _, Eq.trans (World.drewN_drewN _ _ _) (congrArg (World.drewN _) (Nat.add_assoc _ _ _))⟩))); try go_wp2_with (first | (go_at_call 13; (with_reducible refine (impl_MemoryOk.calls k _ _ l0 true _ ?side1 ?side2 A7.out).mono ?_); (case side1 => repeat (first | exact (Kd.C_below HR0.out HB.out) | (with_reducible refine Kd.C_alloc ?_ _) | (with_reducible refine Kd.C_drewN ?_ _) | (with_reducible refine Kd.C_drew ?_))); (case side2 => exact HC0.out); rintro e w' ⟨rfl, ⟨nd, rfl⟩⟩; (try first | exact ⟨rfl, _, World.drewN_drewN _ _ _⟩ | exact ⟨rfl, _, Eq.trans (World.drewN_drewN _ _ _) (congrArg (World.drewN _) (Nat.add_assoc _ _ _))⟩)) | (go_at_call 48; (with_reducible refine (impl_in.calls a1_0 1 5 true _ A9.out).mono ?_); rintro e w' ⟨rfl, ⟨nd, rfl⟩⟩; (try first | exact ⟨rfl, _, World.drewN_drewN _ _ _⟩ | exact ⟨rfl, _, Eq.trans (World.drewN_drewN _ _ _) (congrArg (World.drewN _) (Nat.add_assoc _ _ _))⟩)) | (go_at_call 48; (first | (with_reducible refine (impl_in.calls a1_1 0 (wrap64 ((l0.length : Int) - 1)) true _ A11.out).mono ?_) | (simp only [i64_w, i32_w]; (with_reducible refine (impl_in.calls a1_1 0 (wrap64 ((l0.length : Int) - 1)) true _ A11.out).mono ?_))); rintro e w' ⟨rfl, ⟨nd, rfl⟩⟩; (try first | exact ⟨rfl, _, World.drewN_drewN _ _ _⟩ | exact ⟨rfl, _, Eq.trans (World.drewN_drewN _ _ _) (congrArg (World.drewN _) (Nat.add_assoc _ _ _))⟩)) | (go_at_call 51; (with_reducible refine (impl_isValue.calls a1_3 t304 _ A23.out).mono ?_); rintro e w' ⟨rfl, ⟨nd, rfl⟩⟩; (try first | exact ⟨rfl, _, World.drewN_drewN _ _ _⟩ | exact ⟨rfl, _, Eq.trans (World.drewN_drewN _ _ _) (congrArg (World.drewN _) (Nat.add_assoc _ _ _))⟩))))
              go_meet
              case rel => exact ⟨_, (!t304), (by first | rfl | (simp; done) | (simp [*]; done)), H', ⟨by first | omega | exact Nat.le_refl _⟩, ⟨by (with_reducible repeat (first | apply Kd.R_alloc | apply Kd.R_drewN | apply Kd.R_drew)); exact HO298.out⟩, ⟨by (with_reducible repeat (first | refine blk_drewN ?_ _ | refine blk_drew ?_ | refine blk_alloc ?_ _)); exact BK295.out⟩, ⟨by repeat (first | (with_reducible first | exact HB.out | apply below_alloc | apply pw_below_drewN | apply below_drew1 | refine below_set ?_ GE295.out) | exact HB.out)⟩⟩
        · replace c12 := Bool.eq_false_iff.mpr c12
          subst c12
          have H1 : (impl_Word.j0 k l0 t296 true a1_0 a1_1 a1_2 a1_3) = some (r1, r2, r3) := by rw [if_neg (show ¬ (false = true) by decide)] at H; exact H
          clear H
          have H := H1
          clear H1
          have H' := Aside0.mk H
          clear H
          have hcz25_0 : w6.cell? ⟨gb295, 0, none⟩ = some (.int .i64 a1_0) := (blk_cell BK295.out 0).trans rfl
          have hcz25_1 : w6.cell? ⟨gb295, 1, none⟩ = some (.int .i64 a1_1) := (blk_cell BK295.out 1).trans rfl
          have hcz25_2 : w6.cell? ⟨gb295, 2, none⟩ = some (.int .i64 a1_2) := (blk_cell BK295.out 2).trans rfl
          have hcz25_3 : w6.cell? ⟨gb295, 3, none⟩ = some (.int .i64 a1_3) := (blk_cell BK295.out 3).trans rfl
          have hfz25_0 := blk_frozen BK295.out 0
          have hfz25_1 := blk_frozen BK295.out 1
          have hfz25_2 := blk_frozen BK295.out 2
          have hfz25_3 := blk_frozen BK295.out 3
          go_wp2_with (first | (go_at_call 13; (with_reducible refine (impl_MemoryOk.calls k _ _ l0 true _ ?side1 ?side2 A7.out).mono ?_); (case side1 => repeat (first | exact (Kd.C_below HR0.out HB.out) | (with_reducible refine Kd.C_alloc ?_ _) | (with_reducible refine Kd.C_drewN ?_ _) | (with_reducible refine Kd.C_drew ?_))); (case side2 => exact HC0.out); rintro e w' ⟨rfl, ⟨nd, rfl⟩⟩; (try first | exact ⟨rfl, _, World.drewN_drewN _ _ _⟩ | exact ⟨rfl, _, Eq.trans (World.drewN_drewN _ _ _) (congrArg (World.drewN _) (Nat.add_assoc _ _ _))⟩)) | (go_at_call 48; (with_reducible refine (impl_in.calls a1_0 1 5 true _ A9.out).mono ?_); rintro e w' ⟨rfl, ⟨nd, rfl⟩⟩; (try first | exact ⟨rfl, _, World.drewN_drewN _ _ _⟩ | exact ⟨rfl, _, Eq.trans (World.drewN_drewN _ _ _) (congrArg (World.drewN _) (Nat.add_assoc _ _ _))⟩)) | (go_at_call 48; (first | (with_reducible refine (impl_in.calls a1_1 0 (wrap64 ((l0.length : Int) - 1)) false _ A11.out).mono ?_) | (simp only [i64_w, i32_w]; (with_reducible refine (impl_in.calls a1_1 0 (wrap64 ((l0.length : Int) - 1)) false _ A11.out).mono ?_))); rintro e w' ⟨rfl, ⟨nd, rfl⟩⟩; (try first | exact ⟨rfl, _, World.drewN_drewN _ _ _⟩ | exact ⟨rfl, _, Eq.trans (World.drewN_drewN _ _ _) (congrArg (World.drewN _) (Nat.add_assoc _ _ _))⟩)))
          repeat (go_quiet (first | (go_at_call 13; (with_reducible refine (impl_MemoryOk.calls k _ _ l0 true _ ?side1 ?side2 A7.out).mono ?_); (case side1 => repeat (first | exact (Kd.C_below HR0.out HB.out) | (with_reducible refine Kd.C_alloc ?_ _) | (with_reducible refine Kd.C_drewN ?_ _) | (with_reducible refine Kd.C_drew ?_))); (case side2 => exact HC0.out); rintro e w' ⟨rfl, ⟨nd, rfl⟩⟩; (try first | exact ⟨rfl, _, World.drewN_drewN _ _ _⟩ | exact ⟨rfl, _, Eq.trans (World.drewN_drewN _ _ _) (congrArg (World.drewN _) (Nat.add_assoc _ _ _))⟩)) | (go_at_call 48; (with_reducible refine (impl_in.calls a1_0 1 5 true _ A9.out).mono ?_); rintro e w' ⟨rfl, ⟨nd, rfl⟩⟩; (try first | exact ⟨rfl, _, World.drewN_drewN _ _ _⟩ | exact ⟨rfl, _, Eq.trans (World.drewN_drewN _ _ _) (congrArg (World.drewN _) (Nat.add_assoc _ _ _))⟩)) | (go_at_call 48; (first | (with_reducible refine (impl_in.calls a1_1 0 (wrap64 ((l0.length : Int) - 1)) false _ A11.out).mono ?_) | (simp only [i64_w, i32_w]; (with_reducible refine (impl_in.calls a1_1 0 (wrap64 ((l0.length : Int) - 1)) false _ A11.out).mono ?_))); rintro e w' ⟨rfl, ⟨nd, rfl⟩⟩; (try first | exact ⟨rfl, _, World.drewN_drewN _ _ _⟩ | exact ⟨rfl, _, Eq.trans (World.drewN_drewN _ _ _) (congrArg (World.drewN _) (Nat.add_assoc _ _ _))⟩))); try go_wp2_with (first | (go_at_call 13; (with_reducible refine (impl_MemoryOk.calls k _ _ l0 true _ ?side1 ?side2 A7.out).mono ?_); (case side1 => repeat (first | exact (Kd.C_below HR0.out HB.out) | (with_reducible refine Kd.C_alloc ?_ _) | (with_reducible refine Kd.C_drewN ?_ _) | (with_reducible refine Kd.C_drew ?_))); (case side2 => exact HC0.out); rintro e w' ⟨rfl, ⟨nd, rfl⟩⟩; (try first | exact ⟨rfl, _, World.drewN_drewN _ _ _⟩ | exact ⟨rfl, _, Eq.trans (World.drewN_drewN _ _ _) (congrArg (World.drewN _) (Nat.add_assoc _ _ _))⟩)) | (go_at_call 48; (with_reducible refine (impl_in.calls a1_0 1 5 true _ A9.out).mono ?_); rintro e w' ⟨rfl, ⟨nd, rfl⟩⟩; (try first | exact ⟨rfl, _, World.drewN_drewN _ _ _⟩ | exact ⟨rfl, _, Eq.trans (World.drewN_drewN _ _ _) (congrArg (World.drewN _) (Nat.add_assoc _ _ _))⟩)) | (go_at_call 48; (first | (with_reducible refine (impl_in.calls a1_1 0 (wrap64 ((l0.length : Int) - 1)) false _ A11.out).mono ?_) | (simp only [i64_w, i32_w]; (with_reducible refine (impl_in.calls a1_1 0 (wrap64 ((l0.length : Int) - 1)) false _ A11.out).mono ?_))); rintro e w' ⟨rfl, ⟨nd, rfl⟩⟩; (try first | exact ⟨rfl, _, World.drewN_drewN _ _ _⟩ | exact ⟨rfl, _, Eq.trans (World.drewN_drewN _ _ _) (congrArg (World.drewN _) (Nat.add_assoc _ _ _))⟩))))
          go_meet
          case rel => exact ⟨_, (true), (by first | rfl | (simp; done) | (simp [*]; done)), H', ⟨by first | omega | exact Nat.le_refl _⟩, ⟨by (with_reducible repeat (first | apply Kd.R_alloc | apply Kd.R_drewN | apply Kd.R_drew)); exact HO298.out⟩, ⟨by (with_reducible repeat (first | refine blk_drewN ?_ _ | refine blk_drew ?_ | refine blk_alloc ?_ _)); exact BK295.out⟩, ⟨by repeat (first | (with_reducible first | exact HB.out | apply below_alloc | apply pw_below_drewN | apply below_drew1 | refine below_set ?_ GE295.out) | exact HB.out)⟩⟩
      · replace c10 := Bool.eq_false_iff.mpr c10
        subst c10
        have H1 : (impl_Word.j0 k l0 t296 true a1_0 a1_1 a1_2 a1_3) = some (r1, r2, r3) := by rw [if_neg (show ¬ (false = true) by decide)] at H; exact H
        clear H
        have H := H1
        clear H1
        have H' := Aside0.mk H
        clear H
        have hcz26_0 : w6.cell? ⟨gb295, 0, none⟩ = some (.int .i64 a1_0) := (blk_cell BK295.out 0).trans rfl
        have hcz26_1 : w6.cell? ⟨gb295, 1, none⟩ = some (.int .i64 a1_1) := (blk_cell BK295.out 1).trans rfl
        have hcz26_2 : w6.cell? ⟨gb295, 2, none⟩ = some (.int .i64 a1_2) := (blk_cell BK295.out 2).trans rfl
        have hcz26_3 : w6.cell? ⟨gb295, 3, none⟩ = some (.int .i64 a1_3) := (blk_cell BK295.out 3).trans rfl
        have hfz26_0 := blk_frozen BK295.out 0
        have hfz26_1 := blk_frozen BK295.out 1
        have hfz26_2 := blk_frozen BK295.out 2
        have hfz26_3 := blk_frozen BK295.out 3
        go_wp2_with (first | (go_at_call 13; (with_reducible refine (impl_MemoryOk.calls k _ _ l0 true _ ?side1 ?side2 A7.out).mono ?_); (case side1 => repeat (first | exact (Kd.C_below HR0.out HB.out) | (with_reducible refine Kd.C_alloc ?_ _) | (with_reducible refine Kd.C_drewN ?_ _) | (with_reducible refine Kd.C_drew ?_))); (case side2 => exact HC0.out); rintro e w' ⟨rfl, ⟨nd, rfl⟩⟩; (try first | exact ⟨rfl, _, World.drewN_drewN _ _ _⟩ | exact ⟨rfl, _, Eq.trans (World.drewN_drewN _ _ _) (congrArg (World.drewN _) (Nat.add_assoc _ _ _))⟩)) | (go_at_call 48; (with_reducible refine (impl_in.calls a1_0 1 5 false _ A9.out).mono ?_); rintro e w' ⟨rfl, ⟨nd, rfl⟩⟩; (try first | exact ⟨rfl, _, World.drewN_drewN _ _ _⟩ | exact ⟨rfl, _, Eq.trans (World.drewN_drewN _ _ _) (congrArg (World.drewN _) (Nat.add_assoc _ _ _))⟩)))
        repeat (go_quiet (first | (go_at_call 13; (with_reducible refine (impl_MemoryOk.calls k _ _ l0 true _ ?side1 ?side2 A7.out).mono ?_); (case side1 => repeat (first | exact (Kd.C_below HR0.out HB.out) | (with_reducible refine Kd.C_alloc ?_ _) | (with_reducible refine Kd.C_drewN ?_ _) | (with_reducible refine Kd.C_drew ?_))); (case side2 => exact HC0.out); rintro e w' ⟨rfl, ⟨nd, rfl⟩⟩; (try first | exact ⟨rfl, _, World.drewN_drewN _ _ _⟩ | exact ⟨rfl, _, Eq.trans (World.drewN_drewN _ _ _) (congrArg (World.drewN _) (Nat.add_assoc _ _ _))⟩)) | (go_at_call 48; (with_reducible refine (impl_in.calls a1_0 1 5 false _ A9.out).mono ?_); rintro e w' ⟨rfl, ⟨nd, rfl⟩⟩; (try first | exact ⟨rfl, _, World.drewN_drewN _ _ _⟩ | exact ⟨rfl, _, Eq.trans (World.drewN_drewN _ _ _) (congrArg (World.drewN _) (Nat.add_assoc _ _ _))⟩))); try go_wp2_with (first | (go_at_call 13; (with_reducible refine (impl_MemoryOk.calls k _ _ l0 true _ ?side1 ?side2 A7.out).mono ?_); (case side1 => repeat (first | exact (Kd.C_below HR0.out HB.out) | (with_reducible refine Kd.C_alloc ?_ _) | (with_reducible refine Kd.C_drewN ?_ _) | (with_reducible refine Kd.C_drew ?_))); (case side2 => exact HC0.out); rintro e w' ⟨rfl, ⟨nd, rfl⟩⟩; (try first | exact ⟨rfl, _, World.drewN_drewN _ _ _⟩ | exact ⟨rfl, _, Eq.trans (World.drewN_drewN _ _ _) (congrArg (World.drewN _) (Nat.add_assoc _ _ _))⟩)) | (go_at_call 48; (with_reducible refine (impl_in.calls a1_0 1 5 false _ A9.out).mono ?_); rintro e w' ⟨rfl, ⟨nd, rfl⟩⟩; (try first | exact ⟨rfl, _, World.drewN_drewN _ _ _⟩ | exact ⟨rfl, _, Eq.trans (World.drewN_drewN _ _ _) (congrArg (World.drewN _) (Nat.add_assoc _ _ _))⟩))))
        go_meet
        case rel => exact ⟨_, (true), (by first | rfl | (simp; done) | (simp [*]; done)), H', ⟨by first | omega | exact Nat.le_refl _⟩, ⟨by (with_reducible repeat (first | apply Kd.R_alloc | apply Kd.R_drewN | apply Kd.R_drew)); exact HO298.out⟩, ⟨by (with_reducible repeat (first | refine blk_drewN ?_ _ | refine blk_drew ?_ | refine blk_alloc ?_ _)); exact BK295.out⟩, ⟨by repeat (first | (with_reducible first | exact HB.out | apply below_alloc | apply pw_below_drewN | apply below_drew1 | refine below_set ?_ GE295.out) | exact HB.out)⟩⟩
    · replace c8 := Bool.eq_false_iff.mpr c8
      subst c8
      have H1 : (impl_Word.j0 k l0 t296 true a1_0 a1_1 a1_2 a1_3) = some (r1, r2, r3) := by rw [if_neg (show ¬ (false = true) by decide)] at H; exact H
      clear H
      have H := H1
      clear H1
      have H' := Aside0.mk H
      clear H
      go_wp2_with (first | (go_at_call 13; (with_reducible refine (impl_MemoryOk.calls k _ _ l0 false _ ?side1 ?side2 A7.out).mono ?_); (case side1 => repeat (first | exact (Kd.C_below HR0.out HB.out) | (with_reducible refine Kd.C_alloc ?_ _) | (with_reducible refine Kd.C_drewN ?_ _) | (with_reducible refine Kd.C_drew ?_))); (case side2 => exact HC0.out); rintro e w' ⟨rfl, ⟨nd, rfl⟩⟩; (try first | exact ⟨rfl, _, World.drewN_drewN _ _ _⟩ | exact ⟨rfl, _, Eq.trans (World.drewN_drewN _ _ _) (congrArg (World.drewN _) (Nat.add_assoc _ _ _))⟩)))
      repeat (go_quiet (first | (go_at_call 13; (with_reducible refine (impl_MemoryOk.calls k _ _ l0 false _ ?side1 ?side2 A7.out).mono ?_); (case side1 => repeat (first | exact (Kd.C_below HR0.out HB.out) | (with_reducible refine Kd.C_alloc ?_ _) | (with_reducible refine Kd.C_drewN ?_ _) | (with_reducible refine Kd.C_drew ?_))); (case side2 => exact HC0.out); rintro e w' ⟨rfl, ⟨nd, rfl⟩⟩; (try first | exact ⟨rfl, _, World.drewN_drewN _ _ _⟩ | exact ⟨rfl, _, Eq.trans (World.drewN_drewN _ _ _) (congrArg (World.drewN _) (Nat.add_assoc _ _ _))⟩))); try go_wp2_with (first | (go_at_call 13; (with_reducible refine (impl_MemoryOk.calls k _ _ l0 false _ ?side1 ?side2 A7.out).mono ?_); (case side1 => repeat (first | exact (Kd.C_below HR0.out HB.out) | (with_reducible refine Kd.C_alloc ?_ _) | (with_reducible refine Kd.C_drewN ?_ _) | (with_reducible refine Kd.C_drew ?_))); (case side2 => exact HC0.out); rintro e w' ⟨rfl, ⟨nd, rfl⟩⟩; (try first | exact ⟨rfl, _, World.drewN_drewN _ _ _⟩ | exact ⟨rfl, _, Eq.trans (World.drewN_drewN _ _ _) (congrArg (World.drewN _) (Nat.add_assoc _ _ _))⟩))))
      go_meet
      case rel => exact ⟨_, (true), (by first | rfl | (simp; done) | (simp [*]; done)), H', ⟨by first | omega | exact Nat.le_refl _⟩, ⟨by (with_reducible repeat (first | apply Kd.R_alloc | apply Kd.R_drewN | apply Kd.R_drew)); exact HO298.out⟩, ⟨by (with_reducible repeat (first | refine blk_drewN ?_ _ | refine blk_drew ?_ | refine blk_alloc ?_ _)); exact BK295.out⟩, ⟨by repeat (first | (with_reducible first | exact HB.out | apply below_alloc | apply pw_below_drewN | apply below_drew1 | refine below_set ?_ GE295.out) | exact HB.out)⟩⟩
  case rest =>
    clear HC4
    try clear c1
    try clear c2
    try clear p2
    try clear p6
    try clear c8
    try clear c10
    try clear c12
    try clear c13
    try clear c13b0
    try clear c13b1
    try clear c15
    try clear c16
    try clear c16b0
    try clear c16b1
    try clear c21
    try clear c21b0
    try clear c21b1
    try clear hcz17_0
    try clear hcz17_1
    try clear hcz17_2
    try clear hcz17_3
    try clear hcz19_0
    try clear hcz19_1
    try clear hcz19_2
    try clear hcz19_3
    try clear hcz20_0
    try clear hcz20_1
    try clear hcz20_2
    try clear hcz20_3
    try clear hcz22_0
    try clear hcz22_1
    try clear hcz22_2
    try clear hcz22_3
    try clear hcz24_0
    try clear hcz24_1
    try clear hcz24_2
    try clear hcz24_3
    try clear hcz25_0
    try clear hcz25_1
    try clear hcz25_2
    try clear hcz25_3
    try clear hcz26_0
    try clear hcz26_1
    try clear hcz26_2
    try clear hcz26_3
    try clear hfz17_0
    try clear hfz17_1
    try clear hfz17_2
    try clear hfz17_3
    try clear hfz19_0
    try clear hfz19_1
    try clear hfz19_2
    try clear hfz19_3
    try clear hfz20_0
    try clear hfz20_1
    try clear hfz20_2
    try clear hfz20_3
    try clear hfz22_0
    try clear hfz22_1
    try clear hfz22_2
    try clear hfz22_3
    try clear hfz24_0
    try clear hfz24_1
    try clear hfz24_2
    try clear hfz24_3
    try clear hfz25_0
    try clear hfz25_1
    try clear hfz25_2
    try clear hfz25_3
    try clear hfz26_0
    try clear hfz26_1
    try clear hfz26_2
    try clear hfz26_3
    obtain ⟨kq, x50_3, rfl, HA, HJ3, HO_7, BK295, HB⟩ := hcut
    cases kq with
    | zero => exact absurd HA.out (by simp [impl_Word.j0])
    | succ kj3 =>
      have H := HA.out
      clear HA
      simp only [impl_Word.j0] at H
      by_cases c27 : x50_3 = true
      · subst c27
        have H1 : (some (t296, 0, false)) = some (r1, r2, r3) := by rw [if_pos rfl] at H; exact H
        clear H
        have H := H1
        clear H1
        simp only [Option.some.injEq, Prod.mk.injEq] at H
        obtain ⟨rfl, rfl, rfl⟩ := H
        go_wp2
        repeat (go_quiet (fail); try go_wp2)
        go_ret3
        exact ⟨_, by first | rfl | (simp [errW_none, errW_some] <;> rfl) | (simp [*, errW_none, errW_some] <;> rfl), by (with_reducible repeat (first | apply Kd.R_alloc | apply Kd.R_drewN | apply Kd.R_drew)); exact HO_7.out, by repeat (first | (with_reducible first | exact HB.out | apply below_alloc | apply pw_below_drewN | apply below_drew1 | refine below_set ?_ GE295.out) | exact HB.out)⟩
      · replace c27 := Bool.eq_false_iff.mpr c27
        subst c27
        have H1 : (if 0 ≤ a1_1 then (if a1_1 < (l0.length : Int) then (if a1_0 = 2 then (if a1_1 < (t296.length : Int) then (some ((t296.set (a1_1 : Int).toNat a1_3), a1_3, true)) else (none)) else (if a1_0 = 3 then (if a1_1 < (t296.length : Int) then (some ((t296.set (a1_1 : Int).toNat a1_3), rd l0 a1_1, true)) else (none)) else (if a1_0 = 4 then (if (rd l0 a1_1) = a1_2 then (if a1_1 < (t296.length : Int) then (some ((t296.set (a1_1 : Int).toNat a1_3), rd l0 a1_1, true)) else (none)) else (some (t296, rd l0 a1_1, true))) else (if a1_0 = 5 then ((impl_isValue.f (wrap64 ((rd l0 a1_1) + a1_3))).bind fun t309 => (if t309 = true then (if a1_1 < (t296.length : Int) then (some ((t296.set (a1_1 : Int).toNat (wrap64 ((rd l0 a1_1) + a1_3))), wrap64 ((rd l0 a1_1) + a1_3), true)) else (none)) else (some (t296, 0, false)))) else (some (t296, rd l0 a1_1, true)))))) else (none)) else (none)) = some (r1, r2, r3) := by rw [if_neg (show ¬ (false = true) by decide)] at H; exact H
        clear H
        have H := H1
        clear H1
        by_cases c28 : 0 ≤ a1_1
        · rw [if_pos c28] at H
          have c28b0 : decide (0 ≤ a1_1) = true := decide_eq_true c28
          clear c28
          by_cases c29 : a1_1 < (l0.length : Int)
          · rw [if_pos c29] at H
            have c29b0 : decide (a1_1 < (l0.length : Int)) = true := decide_eq_true c29
            clear c29
            by_cases c30 : a1_0 = 2
            · rw [if_pos c30] at H
              have c30b0 : (a1_0 == 2) = true := beq_iff_eq.mpr c30
              have c30b1 : (a1_0 != 2) = false := bne_eq_false_iff_eq.mpr c30
              clear c30
              by_cases c31 : a1_1 < (t296.length : Int)
              · rw [if_pos c31] at H
                have c31b0 : decide (a1_1 < (t296.length : Int)) = true := decide_eq_true c31
                clear c31
                obtain ⟨y306, hy306⟩ : ∃ y_ : List Int, y_ = (t296.set (a1_1 : Int).toNat a1_3) := ⟨_, rfl⟩
                replace H : (some (y306, a1_3, true)) = some (r1, r2, r3) := by first | (rw [hy306]; with_reducible exact H) | (have H2_ := (Option.bind_some _ _).symm.trans H; rw [hy306]; with_reducible exact H2_) | (have H2_ := (Option.bind_some _ _).symm.trans H; with_reducible exact H2_) | with_reducible exact H | (rw [hy306]; exact H) | exact H
                have Ny306 := Aside0.mk hy306
                clear hy306
                simp only [Option.some.injEq, Prod.mk.injEq] at H
                obtain ⟨rfl, rfl, rfl⟩ := H
                have hcz33_0 : wc.cell? ⟨gb295, 0, none⟩ = some (.int .i64 a1_0) := (blk_cell BK295.out 0).trans rfl
                have hcz33_1 : wc.cell? ⟨gb295, 1, none⟩ = some (.int .i64 a1_1) := (blk_cell BK295.out 1).trans rfl
                have hcz33_2 : wc.cell? ⟨gb295, 2, none⟩ = some (.int .i64 a1_2) := (blk_cell BK295.out 2).trans rfl
                have hcz33_3 : wc.cell? ⟨gb295, 3, none⟩ = some (.int .i64 a1_3) := (blk_cell BK295.out 3).trans rfl
                have hfz33_0 := blk_frozen BK295.out 0
                have hfz33_1 := blk_frozen BK295.out 1
                have hfz33_2 := blk_frozen BK295.out 2
                have hfz33_3 := blk_frozen BK295.out 3
                have p305 : 0 ≤ (a1_1 : Int) := of_decide_eq_true (by first | (with_reducible assumption) | assumption)
                have q305 : a1_1 < (l0.length : Int) := of_decide_eq_true (by first | (with_reducible assumption) | assumption)
                obtain ⟨ad305, e305, hx305_0⟩ := Kd.at_int HR0.out a1_1 p305 q305
                cases e305
                replace hx305_0 := (HB.out.cell (World.block_lt_of_cell? w _ hx305_0)).trans hx305_0
                replace p305 := eq_true p305
                replace q305 := eq_true q305
                have p32 : 0 ≤ (a1_1 : Int) := of_decide_eq_true (by first | (with_reducible assumption) | assumption)
                have q32 : (a1_1 : Int) < ((t296.length : Int) : Int) := of_decide_eq_true (by first | (with_reducible assumption) | assumption)
                obtain ⟨go32, co32, eo32, gb32, gl32, cl32, HG32⟩ := Kd.R_form HO_7.out (by omega)
                (first | cases eo32 | (injection eo32 with ea_ en_ ec_; (first | subst ea_ | (injection ea_ with ea_; subst ea_)); subst ec_; clear en_))
                have GB32 := Aside0.mk gb32
                have GG32 := Aside0.mk HG32
                clear gb32 gl32 HG32
                obtain ⟨hx32_0, hf32_0⟩ := Kd.R_celln 0 HO_7.out (a1_1 : Int) p32 q32
                replace p32 := eq_true p32
                replace q32 := eq_true q32
                have HP34 := Kd.R_putg HO_7.out (a1_1 : Int) a1_3
                go_wp2_with (first | ((with_reducible refine gate_store (t := 3) (p := 66) rfl ?_); (try (rw [drewN_self wc]; generalize hq_ : World.drewN wc _ = wc; (try replace hx32_0 := Go.Proofs.Ytbhlmgljflggeaa.Opn.cell_at_ hq_ hx32_0); (try replace hf32_0 := Go.Proofs.Ytbhlmgljflggeaa.Opn.frozen_at_ hq_ hf32_0); have n0_ := Aside0.mk (Kd.R_at hq_ HO_7.out); have n1_ := Aside0.mk (blk_at hq_ BK295.out); have n2_ := Aside0.mk (below_at hq_ HB.out); clear hq_ HO_7 BK295 HB; have HO_7 := n0_; have BK295 := n1_; have HB := n2_; clear n0_ n1_ n2_; (try (have HP34 := Kd.R_putg HO_7.out (a1_1 : Int) a1_3)))); refine store_event (t := 3) (p := 66) (v := ?vo_w35) (w1 := (wc.setCell ⟨go32, (a1_1 : Int).toNat, none⟩ (.int .i64 a1_3))) ?hg ?ho ?hn ?hr ?_; (case ho => rfl); (case hg => rfl); (case hn => rfl); (case hr => first | (go_simp; done) | (go_simp; rfl)); intro w35 hw; have hg : wc.grownBy w35 (some go32) := (by rw [hw]; exact HP34.2); have hp_ : Kd.R (Kd.int .i64) 3 w35 w.heap.size (fun _ => True) (.slice (some ⟨go32, 0, none⟩) t296.length co32) y306 := (by rw [hw, Ny306.out]; exact HP34.1); clear HP34; have n0_ := Aside0.mk (hp_); have n1_ := Aside0.mk (blk_grown (g := gb295) (o := .cells #[.int .i64 a1_0, .int .i64 a1_1, .int .i64 a1_2, .int .i64 a1_3] 34 (0, 0)) (by (with_reducible repeat (first | refine blk_drewN ?_ _ | refine blk_drew ?_ | refine blk_alloc ?_ _)); exact BK295.out) hg (Kd.R_ne HO_7.out BK295.out (by decide))); have n2_ := Aside0.mk ((by rw [hw]; exact below_set (HB.out) GB32.out : Below w.heap.size w w35)); clear HO_7; clear BK295; clear HB; have HO_7 := n0_; have BK295 := n1_; have HB := n2_; clear n0_ n1_ n2_; clear hg hw hp_; have hcz36_0 : w35.cell? ⟨gb295, 0, none⟩ = some (.int .i64 a1_0) := (blk_cell BK295.out 0).trans rfl; have hcz36_1 : w35.cell? ⟨gb295, 1, none⟩ = some (.int .i64 a1_1) := (blk_cell BK295.out 1).trans rfl; have hcz36_2 : w35.cell? ⟨gb295, 2, none⟩ = some (.int .i64 a1_2) := (blk_cell BK295.out 2).trans rfl; have hcz36_3 : w35.cell? ⟨gb295, 3, none⟩ = some (.int .i64 a1_3) := (blk_cell BK295.out 3).trans rfl; have hfz36_0 := blk_frozen BK295.out 0; have hfz36_1 := blk_frozen BK295.out 1; have hfz36_2 := blk_frozen BK295.out 2; have hfz36_3 := blk_frozen BK295.out 3))
                repeat (go_quiet (first | ((with_reducible refine gate_store (t := 3) (p := 66) rfl ?_); (try (rw [drewN_self wc]; generalize hq_ : World.drewN wc _ = wc; (try replace hx32_0 := Go.Proofs.Ytbhlmgljflggeaa.Opn.cell_at_ hq_ hx32_0); (try replace hf32_0 := Go.Proofs.Ytbhlmgljflggeaa.Opn.frozen_at_ hq_ hf32_0); have n0_ := Aside0.mk (Kd.R_at hq_ HO_7.out); have n1_ := Aside0.mk (blk_at hq_ BK295.out); have n2_ := Aside0.mk (below_at hq_ HB.out); clear hq_ HO_7 BK295 HB; have HO_7 := n0_; have BK295 := n1_; have HB := n2_; clear n0_ n1_ n2_; (try (have HP34 := Kd.R_putg HO_7.out (a1_1 : Int) a1_3)))); refine store_event (t := 3) (p := 66) (v := ?vo_w35) (w1 := (wc.setCell ⟨go32, (a1_1 : Int).toNat, none⟩ (.int .i64 a1_3))) ?hg ?ho ?hn ?hr ?_; (case ho => rfl); (case hg => rfl); (case hn => rfl); (case hr => first | (go_simp; done) | (go_simp; rfl)); intro w35 hw; have hg : wc.grownBy w35 (some go32) := (by rw [hw]; exact HP34.2); have hp_ : Kd.R (Kd.int .i64) 3 w35 w.heap.size (fun _ => True) (.slice (some ⟨go32, 0, none⟩) t296.length co32) y306 := (by rw [hw, Ny306.out]; exact HP34.1); clear HP34; have n0_ := Aside0.mk (hp_); have n1_ := Aside0.mk (blk_grown (g := gb295) (o := .cells #[.int .i64 a1_0, .int .i64 a1_1, .int .i64 a1_2, .int .i64 a1_3] 34 (0, 0)) (by (with_reducible repeat (first | refine blk_drewN ?_ _ | refine blk_drew ?_ | refine blk_alloc ?_ _)); exact BK295.out) hg (Kd.R_ne HO_7.out BK295.out (by decide))); have n2_ := Aside0.mk ((by rw [hw]; exact below_set (HB.out) GB32.out : Below w.heap.size w w35)); clear HO_7; clear BK295; clear HB; have HO_7 := n0_; have BK295 := n1_; have HB := n2_; clear n0_ n1_ n2_; clear hg hw hp_; have hcz36_0 : w35.cell? ⟨gb295, 0, none⟩ = some (.int .i64 a1_0) := (blk_cell BK295.out 0).trans rfl; have hcz36_1 : w35.cell? ⟨gb295, 1, none⟩ = some (.int .i64 a1_1) := (blk_cell BK295.out 1).trans rfl; have hcz36_2 : w35.cell? ⟨gb295, 2, none⟩ = some (.int .i64 a1_2) := (blk_cell BK295.out 2).trans rfl; have hcz36_3 : w35.cell? ⟨gb295, 3, none⟩ = some (.int .i64 a1_3) := (blk_cell BK295.out 3).trans rfl; have hfz36_0 := blk_frozen BK295.out 0; have hfz36_1 := blk_frozen BK295.out 1; have hfz36_2 := blk_frozen BK295.out 2; have hfz36_3 := blk_frozen BK295.out 3)); try go_wp2_with (first | ((with_reducible refine gate_store (t := 3) (p := 66) rfl ?_); (try (rw [drewN_self wc]; generalize hq_ : World.drewN wc _ = wc; (try replace hx32_0 := Go.Proofs.Ytbhlmgljflggeaa.Opn.cell_at_ hq_ hx32_0); (try replace hf32_0 := Go.Proofs.Ytbhlmgljflggeaa.Opn.frozen_at_ hq_ hf32_0); have n0_ := Aside0.mk (Kd.R_at hq_ HO_7.out); have n1_ := Aside0.mk (blk_at hq_ BK295.out); have n2_ := Aside0.mk (below_at hq_ HB.out); clear hq_ HO_7 BK295 HB; have HO_7 := n0_; have BK295 := n1_; have HB := n2_; clear n0_ n1_ n2_; (try (have HP34 := Kd.R_putg HO_7.out (a1_1 : Int) a1_3)))); refine store_event (t := 3) (p := 66) (v := ?vo_w35) (w1 := (wc.setCell ⟨go32, (a1_1 : Int).toNat, none⟩ (.int .i64 a1_3))) ?hg ?ho ?hn ?hr ?_; (case ho => rfl); (case hg => rfl); (case hn => rfl); (case hr => first | (go_simp; done) | (go_simp; rfl)); intro w35 hw; have hg : wc.grownBy w35 (some go32) := (by rw [hw]; exact HP34.2); have hp_ : Kd.R (Kd.int .i64) 3 w35 w.heap.size (fun _ => True) (.slice (some ⟨go32, 0, none⟩) t296.length co32) y306 := (by rw [hw, Ny306.out]; exact HP34.1); clear HP34; have n0_ := Aside0.mk (hp_); have n1_ := Aside0.mk (blk_grown (g := gb295) (o := .cells #[.int .i64 a1_0, .int .i64 a1_1, .int .i64 a1_2, .int .i64 a1_3] 34 (0, 0)) (by (with_reducible repeat (first | refine blk_drewN ?_ _ | refine blk_drew ?_ | refine blk_alloc ?_ _)); exact BK295.out) hg (Kd.R_ne HO_7.out BK295.out (by decide))); have n2_ := Aside0.mk ((by rw [hw]; exact below_set (HB.out) GB32.out : Below w.heap.size w w35)); clear HO_7; clear BK295; clear HB; have HO_7 := n0_; have BK295 := n1_; have HB := n2_; clear n0_ n1_ n2_; clear hg hw hp_; have hcz36_0 : w35.cell? ⟨gb295, 0, none⟩ = some (.int .i64 a1_0) := (blk_cell BK295.out 0).trans rfl; have hcz36_1 : w35.cell? ⟨gb295, 1, none⟩ = some (.int .i64 a1_1) := (blk_cell BK295.out 1).trans rfl; have hcz36_2 : w35.cell? ⟨gb295, 2, none⟩ = some (.int .i64 a1_2) := (blk_cell BK295.out 2).trans rfl; have hcz36_3 : w35.cell? ⟨gb295, 3, none⟩ = some (.int .i64 a1_3) := (blk_cell BK295.out 3).trans rfl; have hfz36_0 := blk_frozen BK295.out 0; have hfz36_1 := blk_frozen BK295.out 1; have hfz36_2 := blk_frozen BK295.out 2; have hfz36_3 := blk_frozen BK295.out 3)))
                go_ret3
                exact ⟨_, by first | rfl | (simp [errW_none, errW_some] <;> rfl) | (simp [*, errW_none, errW_some] <;> rfl), by (with_reducible repeat (first | apply Kd.R_alloc | apply Kd.R_drewN | apply Kd.R_drew)); exact HO_7.out, by repeat (first | (with_reducible first | exact HB.out | apply below_alloc | apply pw_below_drewN | apply below_drew1 | refine below_set ?_ GE295.out) | exact HB.out)⟩
              · rw [if_neg c31] at H
                exact absurd H (by simp)
            · rw [if_neg c30] at H
              have c30b0 : (a1_0 == 2) = false := beq_eq_false_iff_ne.mpr c30
              have c30b1 : (a1_0 != 2) = true := bne_iff_ne.mpr c30
              by_cases c37 : a1_0 = 3
              · rw [if_pos c37] at H
                have c37b0 : (a1_0 == 3) = true := beq_iff_eq.mpr c37
                have c37b1 : (a1_0 != 3) = false := bne_eq_false_iff_eq.mpr c37
                clear c37
                by_cases c38 : a1_1 < (t296.length : Int)
                · rw [if_pos c38] at H
                  have c38b0 : decide (a1_1 < (t296.length : Int)) = true := decide_eq_true c38
                  clear c38
                  obtain ⟨y307, hy307⟩ : ∃ y_ : List Int, y_ = (t296.set (a1_1 : Int).toNat a1_3) := ⟨_, rfl⟩
                  replace H : (some (y307, rd l0 a1_1, true)) = some (r1, r2, r3) := by first | (rw [hy307]; with_reducible exact H) | (have H2_ := (Option.bind_some _ _).symm.trans H; rw [hy307]; with_reducible exact H2_) | (have H2_ := (Option.bind_some _ _).symm.trans H; with_reducible exact H2_) | with_reducible exact H | (rw [hy307]; exact H) | exact H
                  have Ny307 := Aside0.mk hy307
                  clear hy307
                  simp only [Option.some.injEq, Prod.mk.injEq] at H
                  obtain ⟨rfl, rfl, rfl⟩ := H
                  have hcz40_0 : wc.cell? ⟨gb295, 0, none⟩ = some (.int .i64 a1_0) := (blk_cell BK295.out 0).trans rfl
                  have hcz40_1 : wc.cell? ⟨gb295, 1, none⟩ = some (.int .i64 a1_1) := (blk_cell BK295.out 1).trans rfl
                  have hcz40_2 : wc.cell? ⟨gb295, 2, none⟩ = some (.int .i64 a1_2) := (blk_cell BK295.out 2).trans rfl
                  have hcz40_3 : wc.cell? ⟨gb295, 3, none⟩ = some (.int .i64 a1_3) := (blk_cell BK295.out 3).trans rfl
                  have hfz40_0 := blk_frozen BK295.out 0
                  have hfz40_1 := blk_frozen BK295.out 1
                  have hfz40_2 := blk_frozen BK295.out 2
                  have hfz40_3 := blk_frozen BK295.out 3
                  have p305 : 0 ≤ (a1_1 : Int) := of_decide_eq_true (by first | (with_reducible assumption) | assumption)
                  have q305 : a1_1 < (l0.length : Int) := of_decide_eq_true (by first | (with_reducible assumption) | assumption)
                  obtain ⟨ad305, e305, hx305_0⟩ := Kd.at_int HR0.out a1_1 p305 q305
                  cases e305
                  replace hx305_0 := (HB.out.cell (World.block_lt_of_cell? w _ hx305_0)).trans hx305_0
                  replace p305 := eq_true p305
                  replace q305 := eq_true q305
                  have p39 : 0 ≤ (a1_1 : Int) := of_decide_eq_true (by first | (with_reducible assumption) | assumption)
                  have q39 : (a1_1 : Int) < ((t296.length : Int) : Int) := of_decide_eq_true (by first | (with_reducible assumption) | assumption)
                  obtain ⟨go39, co39, eo39, gb39, gl39, cl39, HG39⟩ := Kd.R_form HO_7.out (by omega)
                  (first | cases eo39 | (injection eo39 with ea_ en_ ec_; (first | subst ea_ | (injection ea_ with ea_; subst ea_)); subst ec_; clear en_))
                  have GB39 := Aside0.mk gb39
                  have GG39 := Aside0.mk HG39
                  clear gb39 gl39 HG39
                  obtain ⟨hx39_0, hf39_0⟩ := Kd.R_celln 0 HO_7.out (a1_1 : Int) p39 q39
                  replace p39 := eq_true p39
                  replace q39 := eq_true q39
                  have HP41 := Kd.R_putg HO_7.out (a1_1 : Int) a1_3
                  go_wp2_with (first | ((with_reducible refine gate_store (t := 3) (p := 77) rfl ?_); (try (rw [drewN_self wc]; generalize hq_ : World.drewN wc _ = wc; (try replace hx39_0 := Go.Proofs.Ytbhlmgljflggeaa.Opn.cell_at_ hq_ hx39_0); (try replace hf39_0 := Go.Proofs.Ytbhlmgljflggeaa.Opn.frozen_at_ hq_ hf39_0); have n0_ := Aside0.mk (Kd.R_at hq_ HO_7.out); have n1_ := Aside0.mk (blk_at hq_ BK295.out); have n2_ := Aside0.mk (below_at hq_ HB.out); clear hq_ HO_7 BK295 HB; have HO_7 := n0_; have BK295 := n1_; have HB := n2_; clear n0_ n1_ n2_; (try (have HP41 := Kd.R_putg HO_7.out (a1_1 : Int) a1_3)))); refine store_event (t := 3) (p := 77) (v := ?vo_w42) (w1 := (wc.setCell ⟨go39, (a1_1 : Int).toNat, none⟩ (.int .i64 a1_3))) ?hg ?ho ?hn ?hr ?_; (case ho => rfl); (case hg => rfl); (case hn => rfl); (case hr => first | (go_simp; done) | (go_simp; rfl)); intro w42 hw; have hg : wc.grownBy w42 (some go39) := (by rw [hw]; exact HP41.2); have hp_ : Kd.R (Kd.int .i64) 3 w42 w.heap.size (fun _ => True) (.slice (some ⟨go39, 0, none⟩) t296.length co39) y307 := (by rw [hw, Ny307.out]; exact HP41.1); clear HP41; have n0_ := Aside0.mk (hp_); have n1_ := Aside0.mk (blk_grown (g := gb295) (o := .cells #[.int .i64 a1_0, .int .i64 a1_1, .int .i64 a1_2, .int .i64 a1_3] 34 (0, 0)) (by (with_reducible repeat (first | refine blk_drewN ?_ _ | refine blk_drew ?_ | refine blk_alloc ?_ _)); exact BK295.out) hg (Kd.R_ne HO_7.out BK295.out (by decide))); have n2_ := Aside0.mk ((by rw [hw]; exact below_set (HB.out) GB39.out : Below w.heap.size w w42)); clear HO_7; clear BK295; clear HB; have HO_7 := n0_; have BK295 := n1_; have HB := n2_; clear n0_ n1_ n2_; clear hg hw hp_))
                  repeat (go_quiet (first | ((with_reducible refine gate_store (t := 3) (p := 77) rfl ?_); (try (rw [drewN_self wc]; generalize hq_ : World.drewN wc _ = wc; (try replace hx39_0 := Go.Proofs.Ytbhlmgljflggeaa.Opn.cell_at_ hq_ hx39_0); (try replace hf39_0 := Go.Proofs.Ytbhlmgljflggeaa.Opn.frozen_at_ hq_ hf39_0); have n0_ := Aside0.mk (Kd.R_at hq_ HO_7.out); have n1_ := Aside0.mk (blk_at hq_ BK295.out); have n2_ := Aside0.mk (below_at hq_ HB.out); clear hq_ HO_7 BK295 HB; have HO_7 := n0_; have BK295 := n1_; have HB := n2_; clear n0_ n1_ n2_; (try (have HP41 := Kd.R_putg HO_7.out (a1_1 : Int) a1_3)))); refine store_event (t := 3) (p := 77) (v := ?vo_w42) (w1 := (wc.setCell ⟨go39, (a1_1 : Int).toNat, none⟩ (.int .i64 a1_3))) ?hg ?ho ?hn ?hr ?_; (case ho => rfl); (case hg => rfl); (case hn => rfl); (case hr => first | (go_simp; done) | (go_simp; rfl)); intro w42 hw; have hg : wc.grownBy w42 (some go39) := (by rw [hw]; exact HP41.2); have hp_ : Kd.R (Kd.int .i64) 3 w42 w.heap.size (fun _ => True) (.slice (some ⟨go39, 0, none⟩) t296.length co39) y307 := (by rw [hw, Ny307.out]; exact HP41.1); clear HP41; have n0_ := Aside0.mk (hp_); have n1_ := Aside0.mk (blk_grown (g := gb295) (o := .cells #[.int .i64 a1_0, .int .i64 a1_1, .int .i64 a1_2, .int .i64 a1_3] 34 (0, 0)) (by (with_reducible repeat (first | refine blk_drewN ?_ _ | refine blk_drew ?_ | refine blk_alloc ?_ _)); exact BK295.out) hg (Kd.R_ne HO_7.out BK295.out (by decide))); have n2_ := Aside0.mk ((by rw [hw]; exact below_set (HB.out) GB39.out : Below w.heap.size w w42)); clear HO_7; clear BK295; clear HB; have HO_7 := n0_; have BK295 := n1_; have HB := n2_; clear n0_ n1_ n2_; clear hg hw hp_)); try go_wp2_with (first | ((with_reducible refine gate_store (t := 3) (p := 77) rfl ?_); (try (rw [drewN_self wc]; generalize hq_ : World.drewN wc _ = wc; (try replace hx39_0 := Go.Proofs.Ytbhlmgljflggeaa.Opn.cell_at_ hq_ hx39_0); (try replace hf39_0 := Go.Proofs.Ytbhlmgljflggeaa.Opn.frozen_at_ hq_ hf39_0); have n0_ := Aside0.mk (Kd.R_at hq_ HO_7.out); have n1_ := Aside0.mk (blk_at hq_ BK295.out); have n2_ := Aside0.mk (below_at hq_ HB.out); clear hq_ HO_7 BK295 HB; have HO_7 := n0_; have BK295 := n1_; have HB := n2_; clear n0_ n1_ n2_; (try (have HP41 := Kd.R_putg HO_7.out (a1_1 : Int) a1_3)))); refine store_event (t := 3) (p := 77) (v := ?vo_w42) (w1 := (wc.setCell ⟨go39, (a1_1 : Int).toNat, none⟩ (.int .i64 a1_3))) ?hg ?ho ?hn ?hr ?_; (case ho => rfl); (case hg => rfl); (case hn => rfl); (case hr => first | (go_simp; done) | (go_simp; rfl)); intro w42 hw; have hg : wc.grownBy w42 (some go39) := (by rw [hw]; exact HP41.2); have hp_ : Kd.R (Kd.int .i64) 3 w42 w.heap.size (fun _ => True) (.slice (some ⟨go39, 0, none⟩) t296.length co39) y307 := (by rw [hw, Ny307.out]; exact HP41.1); clear HP41; have n0_ := Aside0.mk (hp_); have n1_ := Aside0.mk (blk_grown (g := gb295) (o := .cells #[.int .i64 a1_0, .int .i64 a1_1, .int .i64 a1_2, .int .i64 a1_3] 34 (0, 0)) (by (with_reducible repeat (first | refine blk_drewN ?_ _ | refine blk_drew ?_ | refine blk_alloc ?_ _)); exact BK295.out) hg (Kd.R_ne HO_7.out BK295.out (by decide))); have n2_ := Aside0.mk ((by rw [hw]; exact below_set (HB.out) GB39.out : Below w.heap.size w w42)); clear HO_7; clear BK295; clear HB; have HO_7 := n0_; have BK295 := n1_; have HB := n2_; clear n0_ n1_ n2_; clear hg hw hp_)))
                  go_ret3
                  exact ⟨_, by first | rfl | (simp [errW_none, errW_some] <;> rfl) | (simp [*, errW_none, errW_some] <;> rfl), by (with_reducible repeat (first | apply Kd.R_alloc | apply Kd.R_drewN | apply Kd.R_drew)); exact HO_7.out, by repeat (first | (with_reducible first | exact HB.out | apply below_alloc | apply pw_below_drewN | apply below_drew1 | refine below_set ?_ GE295.out) | exact HB.out)⟩
                · rw [if_neg c38] at H
                  exact absurd H (by simp)
              · rw [if_neg c37] at H
                have c37b0 : (a1_0 == 3) = false := beq_eq_false_iff_ne.mpr c37
                have c37b1 : (a1_0 != 3) = true := bne_iff_ne.mpr c37
                by_cases c43 : a1_0 = 4
                · rw [if_pos c43] at H
                  have c43b0 : (a1_0 == 4) = true := beq_iff_eq.mpr c43
                  have c43b1 : (a1_0 != 4) = false := bne_eq_false_iff_eq.mpr c43
                  clear c43
                  by_cases c44 : (rd l0 a1_1) = a1_2
                  · rw [if_pos c44] at H
                    have c44b0 : ((rd l0 a1_1) == a1_2) = true := beq_iff_eq.mpr c44
                    have c44b1 : ((rd l0 a1_1) != a1_2) = false := bne_eq_false_iff_eq.mpr c44
                    clear c44
                    by_cases c45 : a1_1 < (t296.length : Int)
                    · rw [if_pos c45] at H
                      have c45b0 : decide (a1_1 < (t296.length : Int)) = true := decide_eq_true c45
                      clear c45
                      obtain ⟨y308, hy308⟩ : ∃ y_ : List Int, y_ = (t296.set (a1_1 : Int).toNat a1_3) := ⟨_, rfl⟩
                      replace H : (some (y308, rd l0 a1_1, true)) = some (r1, r2, r3) := by first | (rw [hy308]; with_reducible exact H) | (have H2_ := (Option.bind_some _ _).symm.trans H; rw [hy308]; with_reducible exact H2_) | (have H2_ := (Option.bind_some _ _).symm.trans H; with_reducible exact H2_) | with_reducible exact H | (rw [hy308]; exact H) | exact H
                      have Ny308 := Aside0.mk hy308
                      clear hy308
                      simp only [Option.some.injEq, Prod.mk.injEq] at H
                      obtain ⟨rfl, rfl, rfl⟩ := H
                      have hcz47_0 : wc.cell? ⟨gb295, 0, none⟩ = some (.int .i64 a1_0) := (blk_cell BK295.out 0).trans rfl
                      have hcz47_1 : wc.cell? ⟨gb295, 1, none⟩ = some (.int .i64 a1_1) := (blk_cell BK295.out 1).trans rfl
                      have hcz47_2 : wc.cell? ⟨gb295, 2, none⟩ = some (.int .i64 a1_2) := (blk_cell BK295.out 2).trans rfl
                      have hcz47_3 : wc.cell? ⟨gb295, 3, none⟩ = some (.int .i64 a1_3) := (blk_cell BK295.out 3).trans rfl
                      have hfz47_0 := blk_frozen BK295.out 0
                      have hfz47_1 := blk_frozen BK295.out 1
                      have hfz47_2 := blk_frozen BK295.out 2
                      have hfz47_3 := blk_frozen BK295.out 3
                      have p305 : 0 ≤ (a1_1 : Int) := of_decide_eq_true (by first | (with_reducible assumption) | assumption)
                      have q305 : a1_1 < (l0.length : Int) := of_decide_eq_true (by first | (with_reducible assumption) | assumption)
                      obtain ⟨ad305, e305, hx305_0⟩ := Kd.at_int HR0.out a1_1 p305 q305
                      cases e305
                      replace hx305_0 := (HB.out.cell (World.block_lt_of_cell? w _ hx305_0)).trans hx305_0
                      replace p305 := eq_true p305
                      replace q305 := eq_true q305
                      have p46 : 0 ≤ (a1_1 : Int) := of_decide_eq_true (by first | (with_reducible assumption) | assumption)
                      have q46 : (a1_1 : Int) < ((t296.length : Int) : Int) := of_decide_eq_true (by first | (with_reducible assumption) | assumption)
                      obtain ⟨go46, co46, eo46, gb46, gl46, cl46, HG46⟩ := Kd.R_form HO_7.out (by omega)
                      (first | cases eo46 | (injection eo46 with ea_ en_ ec_; (first | subst ea_ | (injection ea_ with ea_; subst ea_)); subst ec_; clear en_))
                      have GB46 := Aside0.mk gb46
                      have GG46 := Aside0.mk HG46
                      clear gb46 gl46 HG46
                      obtain ⟨hx46_0, hf46_0⟩ := Kd.R_celln 0 HO_7.out (a1_1 : Int) p46 q46
                      replace p46 := eq_true p46
                      replace q46 := eq_true q46
                      have HP48 := Kd.R_putg HO_7.out (a1_1 : Int) a1_3
                      go_wp2_with (first | ((with_reducible refine gate_store (t := 3) (p := 89) rfl ?_); (try (rw [drewN_self wc]; generalize hq_ : World.drewN wc _ = wc; (try replace hx46_0 := Go.Proofs.Ytbhlmgljflggeaa.Opn.cell_at_ hq_ hx46_0); (try replace hf46_0 := Go.Proofs.Ytbhlmgljflggeaa.Opn.frozen_at_ hq_ hf46_0); have n0_ := Aside0.mk (Kd.R_at hq_ HO_7.out); have n1_ := Aside0.mk (blk_at hq_ BK295.out); have n2_ := Aside0.mk (below_at hq_ HB.out); clear hq_ HO_7 BK295 HB; have HO_7 := n0_; have BK295 := n1_; have HB := n2_; clear n0_ n1_ n2_; (try (have HP48 := Kd.R_putg HO_7.out (a1_1 : Int) a1_3)))); refine store_event (t := 3) (p := 89) (v := ?vo_w49) (w1 := (wc.setCell ⟨go46, (a1_1 : Int).toNat, none⟩ (.int .i64 a1_3))) ?hg ?ho ?hn ?hr ?_; (case ho => rfl); (case hg => rfl); (case hn => rfl); (case hr => first | (go_simp; done) | (go_simp; rfl)); intro w49 hw; have hg : wc.grownBy w49 (some go46) := (by rw [hw]; exact HP48.2); have hp_ : Kd.R (Kd.int .i64) 3 w49 w.heap.size (fun _ => True) (.slice (some ⟨go46, 0, none⟩) t296.length co46) y308 := (by rw [hw, Ny308.out]; exact HP48.1); clear HP48; have n0_ := Aside0.mk (hp_); have n1_ := Aside0.mk (blk_grown (g := gb295) (o := .cells #[.int .i64 a1_0, .int .i64 a1_1, .int .i64 a1_2, .int .i64 a1_3] 34 (0, 0)) (by (with_reducible repeat (first | refine blk_drewN ?_ _ | refine blk_drew ?_ | refine blk_alloc ?_ _)); exact BK295.out) hg (Kd.R_ne HO_7.out BK295.out (by decide))); have n2_ := Aside0.mk ((by rw [hw]; exact below_set (HB.out) GB46.out : Below w.heap.size w w49)); clear HO_7; clear BK295; clear HB; have HO_7 := n0_; have BK295 := n1_; have HB := n2_; clear n0_ n1_ n2_; clear hg hw hp_))
                      repeat (go_quiet (first | ((with_reducible refine gate_store (t := 3) (p := 89) rfl ?_); (try (rw [drewN_self wc]; generalize hq_ : World.drewN wc _ = wc; (try replace hx46_0 := Go.Proofs.Ytbhlmgljflggeaa.Opn.cell_at_ hq_ hx46_0); (try replace hf46_0 := Go.Proofs.Ytbhlmgljflggeaa.Opn.frozen_at_ hq_ hf46_0); have n0_ := Aside0.mk (Kd.R_at hq_ HO_7.out); have n1_ := Aside0.mk (blk_at hq_ BK295.out); have n2_ := Aside0.mk (below_at hq_ HB.out); clear hq_ HO_7 BK295 HB; have HO_7 := n0_; have BK295 := n1_; have HB := n2_; clear n0_ n1_ n2_; (try (have HP48 := Kd.R_putg HO_7.out (a1_1 : Int) a1_3)))); refine store_event (t := 3) (p := 89) (v := ?vo_w49) (w1 := (wc.setCell ⟨go46, (a1_1 : Int).toNat, none⟩ (.int .i64 a1_3))) ?hg ?ho ?hn ?hr ?_; (case ho => rfl); (case hg => rfl); (case hn => rfl); (case hr => first | (go_simp; done) | (go_simp; rfl)); intro w49 hw; have hg : wc.grownBy w49 (some go46) := (by rw [hw]; exact HP48.2); have hp_ : Kd.R (Kd.int .i64) 3 w49 w.heap.size (fun _ => True) (.slice (some ⟨go46, 0, none⟩) t296.length co46) y308 := (by rw [hw, Ny308.out]; exact HP48.1); clear HP48; have n0_ := Aside0.mk (hp_); have n1_ := Aside0.mk (blk_grown (g := gb295) (o := .cells #[.int .i64 a1_0, .int .i64 a1_1, .int .i64 a1_2, .int .i64 a1_3] 34 (0, 0)) (by (with_reducible repeat (first | refine blk_drewN ?_ _ | refine blk_drew ?_ | refine blk_alloc ?_ _)); exact BK295.out) hg (Kd.R_ne HO_7.out BK295.out (by decide))); have n2_ := Aside0.mk ((by rw [hw]; exact below_set (HB.out) GB46.out : Below w.heap.size w w49)); clear HO_7; clear BK295; clear HB; have HO_7 := n0_; have BK295 := n1_; have HB := n2_; clear n0_ n1_ n2_; clear hg hw hp_)); try go_wp2_with (first | ((with_reducible refine gate_store (t := 3) (p := 89) rfl ?_); (try (rw [drewN_self wc]; generalize hq_ : World.drewN wc _ = wc; (try replace hx46_0 := Go.Proofs.Ytbhlmgljflggeaa.Opn.cell_at_ hq_ hx46_0); (try replace hf46_0 := Go.Proofs.Ytbhlmgljflggeaa.Opn.frozen_at_ hq_ hf46_0); have n0_ := Aside0.mk (Kd.R_at hq_ HO_7.out); have n1_ := Aside0.mk (blk_at hq_ BK295.out); have n2_ := Aside0.mk (below_at hq_ HB.out); clear hq_ HO_7 BK295 HB; have HO_7 := n0_; have BK295 := n1_; have HB := n2_; clear n0_ n1_ n2_; (try (have HP48 := Kd.R_putg HO_7.out (a1_1 : Int) a1_3)))); refine store_event (t := 3) (p := 89) (v := ?vo_w49) (w1 := (wc.setCell ⟨go46, (a1_1 : Int).toNat, none⟩ (.int .i64 a1_3))) ?hg ?ho ?hn ?hr ?_; (case ho => rfl); (case hg => rfl); (case hn => rfl); (case hr => first | (go_simp; done) | (go_simp; rfl)); intro w49 hw; have hg : wc.grownBy w49 (some go46) := (by rw [hw]; exact HP48.2); have hp_ : Kd.R (Kd.int .i64) 3 w49 w.heap.size (fun _ => True) (.slice (some ⟨go46, 0, none⟩) t296.length co46) y308 := (by rw [hw, Ny308.out]; exact HP48.1); clear HP48; have n0_ := Aside0.mk (hp_); have n1_ := Aside0.mk (blk_grown (g := gb295) (o := .cells #[.int .i64 a1_0, .int .i64 a1_1, .int .i64 a1_2, .int .i64 a1_3] 34 (0, 0)) (by (with_reducible repeat (first | refine blk_drewN ?_ _ | refine blk_drew ?_ | refine blk_alloc ?_ _)); exact BK295.out) hg (Kd.R_ne HO_7.out BK295.out (by decide))); have n2_ := Aside0.mk ((by rw [hw]; exact below_set (HB.out) GB46.out : Below w.heap.size w w49)); clear HO_7; clear BK295; clear HB; have HO_7 := n0_; have BK295 := n1_; have HB := n2_; clear n0_ n1_ n2_; clear hg hw hp_)))
                      go_ret3
                      exact ⟨_, by first | rfl | (simp [errW_none, errW_some] <;> rfl) | (simp [*, errW_none, errW_some] <;> rfl), by (with_reducible repeat (first | apply Kd.R_alloc | apply Kd.R_drewN | apply Kd.R_drew)); exact HO_7.out, by repeat (first | (with_reducible first | exact HB.out | apply below_alloc | apply pw_below_drewN | apply below_drew1 | refine below_set ?_ GE295.out) | exact HB.out)⟩
                    · rw [if_neg c45] at H
                      exact absurd H (by simp)
                  · rw [if_neg c44] at H
                    have c44b0 : ((rd l0 a1_1) == a1_2) = false := beq_eq_false_iff_ne.mpr c44
                    have c44b1 : ((rd l0 a1_1) != a1_2) = true := bne_iff_ne.mpr c44
                    simp only [Option.some.injEq, Prod.mk.injEq] at H
                    obtain ⟨rfl, rfl, rfl⟩ := H
                    have hcz50_0 : wc.cell? ⟨gb295, 0, none⟩ = some (.int .i64 a1_0) := (blk_cell BK295.out 0).trans rfl
                    have hcz50_1 : wc.cell? ⟨gb295, 1, none⟩ = some (.int .i64 a1_1) := (blk_cell BK295.out 1).trans rfl
                    have hcz50_2 : wc.cell? ⟨gb295, 2, none⟩ = some (.int .i64 a1_2) := (blk_cell BK295.out 2).trans rfl
                    have hcz50_3 : wc.cell? ⟨gb295, 3, none⟩ = some (.int .i64 a1_3) := (blk_cell BK295.out 3).trans rfl
                    have hfz50_0 := blk_frozen BK295.out 0
                    have hfz50_1 := blk_frozen BK295.out 1
                    have hfz50_2 := blk_frozen BK295.out 2
                    have hfz50_3 := blk_frozen BK295.out 3
                    have p305 : 0 ≤ (a1_1 : Int) := of_decide_eq_true (by first | (with_reducible assumption) | assumption)
                    have q305 : a1_1 < (l0.length : Int) := of_decide_eq_true (by first | (with_reducible assumption) | assumption)
                    obtain ⟨ad305, e305, hx305_0⟩ := Kd.at_int HR0.out a1_1 p305 q305
                    cases e305
                    replace hx305_0 := (HB.out.cell (World.block_lt_of_cell? w _ hx305_0)).trans hx305_0
                    replace p305 := eq_true p305
                    replace q305 := eq_true q305
                    go_wp2
                    repeat (go_quiet (fail); try go_wp2)
                    go_ret3
                    exact ⟨_, by first | rfl | (simp [errW_none, errW_some] <;> rfl) | (simp [*, errW_none, errW_some] <;> rfl), by (with_reducible repeat (first | apply Kd.R_alloc | apply Kd.R_drewN | apply Kd.R_drew)); exact HO_7.out, by repeat (first | (with_reducible first | exact HB.out | apply below_alloc | apply pw_below_drewN | apply below_drew1 | refine below_set ?_ GE295.out) | exact HB.out)⟩
                · rw [if_neg c43] at H
                  have c43b0 : (a1_0 == 4) = false := beq_eq_false_iff_ne.mpr c43
                  have c43b1 : (a1_0 != 4) = true := bne_iff_ne.mpr c43
                  by_cases c51 : a1_0 = 5
                  · rw [if_pos c51] at H
                    have c51b0 : (a1_0 == 5) = true := beq_iff_eq.mpr c51
                    have c51b1 : (a1_0 != 5) = false := bne_eq_false_iff_eq.mpr c51
                    clear c51
                    replace H := Option.bind_eq_some_iff.mp H
                    obtain ⟨t309, A520, H⟩ := H
                    replace H : (if t309 = true then (if a1_1 < (t296.length : Int) then (some ((t296.set (a1_1 : Int).toNat (wrap64 ((rd l0 a1_1) + a1_3))), wrap64 ((rd l0 a1_1) + a1_3), true)) else (none)) else (some (t296, 0, false))) = some (r1, r2, r3) := H
                    have A52 := Aside0.mk A520
                    clear A520
                    by_cases c53 : t309 = true
                    · subst c53
                      have H1 : (if a1_1 < (t296.length : Int) then (some ((t296.set (a1_1 : Int).toNat (wrap64 ((rd l0 a1_1) + a1_3))), wrap64 ((rd l0 a1_1) + a1_3), true)) else (none)) = some (r1, r2, r3) := by rw [if_pos rfl] at H; exact H
                      clear H
                      have H := H1
                      clear H1
                      by_cases c54 : a1_1 < (t296.length : Int)
                      · rw [if_pos c54] at H
                        have c54b0 : decide (a1_1 < (t296.length : Int)) = true := decide_eq_true c54
                        clear c54
                        obtain ⟨y310, hy310⟩ : ∃ y_ : List Int, y_ = (t296.set (a1_1 : Int).toNat (wrap64 ((rd l0 a1_1) + a1_3))) := ⟨_, rfl⟩
                        replace H : (some (y310, wrap64 ((rd l0 a1_1) + a1_3), true)) = some (r1, r2, r3) := by first | (rw [hy310]; with_reducible exact H) | (have H2_ := (Option.bind_some _ _).symm.trans H; rw [hy310]; with_reducible exact H2_) | (have H2_ := (Option.bind_some _ _).symm.trans H; with_reducible exact H2_) | with_reducible exact H | (rw [hy310]; exact H) | exact H
                        have Ny310 := Aside0.mk hy310
                        clear hy310
                        simp only [Option.some.injEq, Prod.mk.injEq] at H
                        obtain ⟨rfl, rfl, rfl⟩ := H
                        have hcz56_0 : wc.cell? ⟨gb295, 0, none⟩ = some (.int .i64 a1_0) := (blk_cell BK295.out 0).trans rfl
                        have hcz56_1 : wc.cell? ⟨gb295, 1, none⟩ = some (.int .i64 a1_1) := (blk_cell BK295.out 1).trans rfl
                        have hcz56_2 : wc.cell? ⟨gb295, 2, none⟩ = some (.int .i64 a1_2) := (blk_cell BK295.out 2).trans rfl
                        have hcz56_3 : wc.cell? ⟨gb295, 3, none⟩ = some (.int .i64 a1_3) := (blk_cell BK295.out 3).trans rfl
                        have hfz56_0 := blk_frozen BK295.out 0
                        have hfz56_1 := blk_frozen BK295.out 1
                        have hfz56_2 := blk_frozen BK295.out 2
                        have hfz56_3 := blk_frozen BK295.out 3
                        have p305 : 0 ≤ (a1_1 : Int) := of_decide_eq_true (by first | (with_reducible assumption) | assumption)
                        have q305 : a1_1 < (l0.length : Int) := of_decide_eq_true (by first | (with_reducible assumption) | assumption)
                        obtain ⟨ad305, e305, hx305_0⟩ := Kd.at_int HR0.out a1_1 p305 q305
                        cases e305
                        replace hx305_0 := (HB.out.cell (World.block_lt_of_cell? w _ hx305_0)).trans hx305_0
                        replace p305 := eq_true p305
                        replace q305 := eq_true q305
                        have p55 : 0 ≤ (a1_1 : Int) := of_decide_eq_true (by first | (with_reducible assumption) | assumption)
                        have q55 : (a1_1 : Int) < ((t296.length : Int) : Int) := of_decide_eq_true (by first | (with_reducible assumption) | assumption)
                        obtain ⟨go55, co55, eo55, gb55, gl55, cl55, HG55⟩ := Kd.R_form HO_7.out (by omega)
                        (first | cases eo55 | (injection eo55 with ea_ en_ ec_; (first | subst ea_ | (injection ea_ with ea_; subst ea_)); subst ec_; clear en_))
                        have GB55 := Aside0.mk gb55
                        have GG55 := Aside0.mk HG55
                        clear gb55 gl55 HG55
                        obtain ⟨hx55_0, hf55_0⟩ := Kd.R_celln 0 HO_7.out (a1_1 : Int) p55 q55
                        replace p55 := eq_true p55
                        replace q55 := eq_true q55
                        have HP57 := Kd.R_putg HO_7.out (a1_1 : Int) (wrap64 ((rd l0 a1_1) + a1_3))
                        go_wp2_with (first | (go_at_call 51; (first | (with_reducible refine (impl_isValue.calls (wrap64 ((rd l0 a1_1) + a1_3)) true _ A52.out).mono ?_) | (simp only [i64_w, i32_w]; (with_reducible refine (impl_isValue.calls (wrap64 ((rd l0 a1_1) + a1_3)) true _ A52.out).mono ?_))); rintro e w' ⟨rfl, ⟨nd, rfl⟩⟩; (try first | exact ⟨rfl, _, World.drewN_drewN _ _ _⟩ | exact ⟨rfl, _, Eq.trans (World.drewN_drewN _ _ _) (congrArg (World.drewN _) (Nat.add_assoc _ _ _))⟩)) | ((with_reducible refine gate_store (t := 3) (p := 106) rfl ?_); (try (rw [drewN_self wc]; generalize hq_ : World.drewN wc _ = wc; (try replace hx55_0 := Go.Proofs.Ytbhlmgljflggeaa.Opn.cell_at_ hq_ hx55_0); (try replace hf55_0 := Go.Proofs.Ytbhlmgljflggeaa.Opn.frozen_at_ hq_ hf55_0); have n0_ := Aside0.mk (Kd.R_at hq_ HO_7.out); have n1_ := Aside0.mk (blk_at hq_ BK295.out); have n2_ := Aside0.mk (below_at hq_ HB.out); clear hq_ HO_7 BK295 HB; have HO_7 := n0_; have BK295 := n1_; have HB := n2_; clear n0_ n1_ n2_; (try (have HP57 := Kd.R_putg HO_7.out (a1_1 : Int) (wrap64 ((rd l0 a1_1) + a1_3)))))); refine store_event (t := 3) (p := 106) (v := ?vo_w58) (w1 := (wc.setCell ⟨go55, (a1_1 : Int).toNat, none⟩ (.int .i64 (wrap64 ((rd l0 a1_1) + a1_3))))) ?hg ?ho ?hn ?hr ?_; (case ho => rfl); (case hg => rfl); (case hn => rfl); (case hr => first | (go_simp; done) | (go_simp; rfl)); intro w58 hw; have hg : wc.grownBy w58 (some go55) := (by rw [hw]; exact HP57.2); have hp_ : Kd.R (Kd.int .i64) 3 w58 w.heap.size (fun _ => True) (.slice (some ⟨go55, 0, none⟩) t296.length co55) y310 := (by rw [hw, Ny310.out]; exact HP57.1); clear HP57; have n0_ := Aside0.mk (hp_); have n1_ := Aside0.mk (blk_grown (g := gb295) (o := .cells #[.int .i64 a1_0, .int .i64 a1_1, .int .i64 a1_2, .int .i64 a1_3] 34 (0, 0)) (by (with_reducible repeat (first | refine blk_drewN ?_ _ | refine blk_drew ?_ | refine blk_alloc ?_ _)); exact BK295.out) hg (Kd.R_ne HO_7.out BK295.out (by decide))); have n2_ := Aside0.mk ((by rw [hw]; exact below_set (HB.out) GB55.out : Below w.heap.size w w58)); clear HO_7; clear BK295; clear HB; have HO_7 := n0_; have BK295 := n1_; have HB := n2_; clear n0_ n1_ n2_; clear hg hw hp_; have hcz59_0 : w58.cell? ⟨gb295, 0, none⟩ = some (.int .i64 a1_0) := (blk_cell BK295.out 0).trans rfl; have hcz59_1 : w58.cell? ⟨gb295, 1, none⟩ = some (.int .i64 a1_1) := (blk_cell BK295.out 1).trans rfl; have hcz59_2 : w58.cell? ⟨gb295, 2, none⟩ = some (.int .i64 a1_2) := (blk_cell BK295.out 2).trans rfl; have hcz59_3 : w58.cell? ⟨gb295, 3, none⟩ = some (.int .i64 a1_3) := (blk_cell BK295.out 3).trans rfl; have hfz59_0 := blk_frozen BK295.out 0; have hfz59_1 := blk_frozen BK295.out 1; have hfz59_2 := blk_frozen BK295.out 2; have hfz59_3 := blk_frozen BK295.out 3))
                        repeat (go_quiet (first | (go_at_call 51; (first | (with_reducible refine (impl_isValue.calls (wrap64 ((rd l0 a1_1) + a1_3)) true _ A52.out).mono ?_) | (simp only [i64_w, i32_w]; (with_reducible refine (impl_isValue.calls (wrap64 ((rd l0 a1_1) + a1_3)) true _ A52.out).mono ?_))); rintro e w' ⟨rfl, ⟨nd, rfl⟩⟩; (try first | exact ⟨rfl, _, World.drewN_drewN _ _ _⟩ | exact ⟨rfl, _, Eq.trans (World.drewN_drewN _ _ _) (congrArg (World.drewN _) (Nat.add_assoc _ _ _))⟩)) | ((with_reducible refine gate_store (t := 3) (p := 106) rfl ?_); (try (rw [drewN_self wc]; generalize hq_ : World.drewN wc _ = wc; (try replace hx55_0 := Go.Proofs.Ytbhlmgljflggeaa.Opn.cell_at_ hq_ hx55_0); (try replace hf55_0 := Go.Proofs.Ytbhlmgljflggeaa.Opn.frozen_at_ hq_ hf55_0); have n0_ := Aside0.mk (Kd.R_at hq_ HO_7.out); have n1_ := Aside0.mk (blk_at hq_ BK295.out); have n2_ := Aside0.mk (below_at hq_ HB.out); clear hq_ HO_7 BK295 HB; have HO_7 := n0_; have BK295 := n1_; have HB := n2_; clear n0_ n1_ n2_; (try (have HP57 := Kd.R_putg HO_7.out (a1_1 : Int) (wrap64 ((rd l0 a1_1) + a1_3)))))); refine store_event (t := 3) (p := 106) (v := ?vo_w58) (w1 := (wc.setCell ⟨go55, (a1_1 : Int).toNat, none⟩ (.int .i64 (wrap64 ((rd l0 a1_1) + a1_3))))) ?hg ?ho ?hn ?hr ?_; (case ho => rfl); (case hg => rfl); (case hn => rfl); (case hr => first | (go_simp; done) | (go_simp; rfl)); intro w58 hw; have hg : wc.grownBy w58 (some go55) := (by rw [hw]; exact HP57.2); have hp_ : Kd.R (Kd.int .i64) 3 w58 w.heap.size (fun _ => True) (.slice (some ⟨go55, 0, none⟩) t296.length co55) y310 := (by rw [hw, Ny310.out]; exact HP57.1); clear HP57; have n0_ := Aside0.mk (hp_); have n1_ := Aside0.mk (blk_grown (g := gb295) (o := .cells #[.int .i64 a1_0, .int .i64 a1_1, .int .i64 a1_2, .int .i64 a1_3] 34 (0, 0)) (by (with_reducible repeat (first | refine blk_drewN ?_ _ | refine blk_drew ?_ | refine blk_alloc ?_ _)); exact BK295.out) hg (Kd.R_ne HO_7.out BK295.out (by decide))); have n2_ := Aside0.mk ((by rw [hw]; exact below_set (HB.out) GB55.out : Below w.heap.size w w58)); clear HO_7; clear BK295; clear HB; have HO_7 := n0_; have BK295 := n1_; have HB := n2_; clear n0_ n1_ n2_; clear hg hw hp_; have hcz59_0 : w58.cell? ⟨gb295, 0, none⟩ = some (.int .i64 a1_0) := (blk_cell BK295.out 0).trans rfl; have hcz59_1 : w58.cell? ⟨gb295, 1, none⟩ = some (.int .i64 a1_1) := (blk_cell BK295.out 1).trans rfl; have hcz59_2 : w58.cell? ⟨gb295, 2, none⟩ = some (.int .i64 a1_2) := (blk_cell BK295.out 2).trans rfl; have hcz59_3 : w58.cell? ⟨gb295, 3, none⟩ = some (.int .i64 a1_3) := (blk_cell BK295.out 3).trans rfl; have hfz59_0 := blk_frozen BK295.out 0; have hfz59_1 := blk_frozen BK295.out 1; have hfz59_2 := blk_frozen BK295.out 2; have hfz59_3 := blk_frozen BK295.out 3)); try go_wp2_with (first | (go_at_call 51; (first | (with_reducible refine (impl_isValue.calls (wrap64 ((rd l0 a1_1) + a1_3)) true _ A52.out).mono ?_) | (simp only [i64_w, i32_w]; (with_reducible refine (impl_isValue.calls (wrap64 ((rd l0 a1_1) + a1_3)) true _ A52.out).mono ?_))); rintro e w' ⟨rfl, ⟨nd, rfl⟩⟩; (try first | exact ⟨rfl, _, World.drewN_drewN _ _ _⟩ | exact ⟨rfl, _, Eq.trans (World.drewN_drewN _ _ _) (congrArg (World.drewN _) (Nat.add_assoc _ _ _))⟩)) | ((with_reducible refine gate_store (t := 3) (p := 106) rfl ?_); (try (rw [drewN_self wc]; generalize hq_ : World.drewN wc _ = wc; (try replace hx55_0 := Go.Proofs.Ytbhlmgljflggeaa.Opn.cell_at_ hq_ hx55_0); (try replace hf55_0 := Go.Proofs.Ytbhlmgljflggeaa.Opn.frozen_at_ hq_ hf55_0); have n0_ := Aside0.mk (Kd.R_at hq_ HO_7.out); have n1_ := Aside0.mk (blk_at hq_ BK295.out); have n2_ := Aside0.mk (below_at hq_ HB.out); clear hq_ HO_7 BK295 HB; have HO_7 := n0_; have BK295 := n1_; have HB := n2_; clear n0_ n1_ n2_; (try (have HP57 := Kd.R_putg HO_7.out (a1_1 : Int) (wrap64 ((rd l0 a1_1) + a1_3)))))); refine store_event (t := 3) (p := 106) (v := ?vo_w58) (w1 := (wc.setCell ⟨go55, (a1_1 : Int).toNat, none⟩ (.int .i64 (wrap64 ((rd l0 a1_1) + a1_3))))) ?hg ?ho ?hn ?hr ?_; (case ho => rfl); (case hg => rfl); (case hn => rfl); (case hr => first | (go_simp; done) | (go_simp; rfl)); intro w58 hw; have hg : wc.grownBy w58 (some go55) := (by rw [hw]; exact HP57.2); have hp_ : Kd.R (Kd.int .i64) 3 w58 w.heap.size (fun _ => True) (.slice (some ⟨go55, 0, none⟩) t296.length co55) y310 := (by rw [hw, Ny310.out]; exact HP57.1); clear HP57; have n0_ := Aside0.mk (hp_); have n1_ := Aside0.mk (blk_grown (g := gb295) (o := .cells #[.int .i64 a1_0, .int .i64 a1_1, .int .i64 a1_2, .int .i64 a1_3] 34 (0, 0)) (by (with_reducible repeat (first | refine blk_drewN ?_ _ | refine blk_drew ?_ | refine blk_alloc ?_ _)); exact BK295.out) hg (Kd.R_ne HO_7.out BK295.out (by decide))); have n2_ := Aside0.mk ((by rw [hw]; exact below_set (HB.out) GB55.out : Below w.heap.size w w58)); clear HO_7; clear BK295; clear HB; have HO_7 := n0_; have BK295 := n1_; have HB := n2_; clear n0_ n1_ n2_; clear hg hw hp_; have hcz59_0 : w58.cell? ⟨gb295, 0, none⟩ = some (.int .i64 a1_0) := (blk_cell BK295.out 0).trans rfl; have hcz59_1 : w58.cell? ⟨gb295, 1, none⟩ = some (.int .i64 a1_1) := (blk_cell BK295.out 1).trans rfl; have hcz59_2 : w58.cell? ⟨gb295, 2, none⟩ = some (.int .i64 a1_2) := (blk_cell BK295.out 2).trans rfl; have hcz59_3 : w58.cell? ⟨gb295, 3, none⟩ = some (.int .i64 a1_3) := (blk_cell BK295.out 3).trans rfl; have hfz59_0 := blk_frozen BK295.out 0; have hfz59_1 := blk_frozen BK295.out 1; have hfz59_2 := blk_frozen BK295.out 2; have hfz59_3 := blk_frozen BK295.out 3)))
                        go_ret3
                        exact ⟨_, by first | rfl | (simp [errW_none, errW_some] <;> rfl) | (simp [*, errW_none, errW_some] <;> rfl), by (with_reducible repeat (first | apply Kd.R_alloc | apply Kd.R_drewN | apply Kd.R_drew)); exact HO_7.out, by repeat (first | (with_reducible first | exact HB.out | apply below_alloc | apply pw_below_drewN | apply below_drew1 | refine below_set ?_ GE295.out) | exact HB.out)⟩
                      · rw [if_neg c54] at H
                        exact absurd H (by simp)
                    · replace c53 := Bool.eq_false_iff.mpr c53
                      subst c53
                      have H1 : (some (t296, 0, false)) = some (r1, r2, r3) := by rw [if_neg (show ¬ (false = true) by decide)] at H; exact H
                      clear H
                      have H := H1
                      clear H1
                      simp only [Option.some.injEq, Prod.mk.injEq] at H
                      obtain ⟨rfl, rfl, rfl⟩ := H
                      have hcz60_0 : wc.cell? ⟨gb295, 0, none⟩ = some (.int .i64 a1_0) := (blk_cell BK295.out 0).trans rfl
                      have hcz60_1 : wc.cell? ⟨gb295, 1, none⟩ = some (.int .i64 a1_1) := (blk_cell BK295.out 1).trans rfl
                      have hcz60_2 : wc.cell? ⟨gb295, 2, none⟩ = some (.int .i64 a1_2) := (blk_cell BK295.out 2).trans rfl
                      have hcz60_3 : wc.cell? ⟨gb295, 3, none⟩ = some (.int .i64 a1_3) := (blk_cell BK295.out 3).trans rfl
                      have hfz60_0 := blk_frozen BK295.out 0
                      have hfz60_1 := blk_frozen BK295.out 1
                      have hfz60_2 := blk_frozen BK295.out 2
                      have hfz60_3 := blk_frozen BK295.out 3
                      have p305 : 0 ≤ (a1_1 : Int) := of_decide_eq_true (by first | (with_reducible assumption) | assumption)
                      have q305 : a1_1 < (l0.length : Int) := of_decide_eq_true (by first | (with_reducible assumption) | assumption)
                      obtain ⟨ad305, e305, hx305_0⟩ := Kd.at_int HR0.out a1_1 p305 q305
                      cases e305
                      replace hx305_0 := (HB.out.cell (World.block_lt_of_cell? w _ hx305_0)).trans hx305_0
                      replace p305 := eq_true p305
                      replace q305 := eq_true q305
                      go_wp2_with (first | (go_at_call 51; (first | (with_reducible refine (impl_isValue.calls (wrap64 ((rd l0 a1_1) + a1_3)) false _ A52.out).mono ?_) | (simp only [i64_w, i32_w]; (with_reducible refine (impl_isValue.calls (wrap64 ((rd l0 a1_1) + a1_3)) false _ A52.out).mono ?_))); rintro e w' ⟨rfl, ⟨nd, rfl⟩⟩; (try first | exact ⟨rfl, _, World.drewN_drewN _ _ _⟩ | exact ⟨rfl, _, Eq.trans (World.drewN_drewN _ _ _) (congrArg (World.drewN _) (Nat.add_assoc _ _ _))⟩)))
                      repeat (go_quiet (first | (go_at_call 51; (first | (with_reducible refine (impl_isValue.calls (wrap64 ((rd l0 a1_1) + a1_3)) false _ A52.out).mono ?_) | (simp only [i64_w, i32_w]; (with_reducible refine (impl_isValue.calls (wrap64 ((rd l0 a1_1) + a1_3)) false _ A52.out).mono ?_))); rintro e w' ⟨rfl, ⟨nd, rfl⟩⟩; (try first | exact ⟨rfl, _, World.drewN_drewN _ _ _⟩ | exact ⟨rfl, _, Eq.trans (World.drewN_drewN _ _ _) (congrArg (World.drewN _) (Nat.add_assoc _ _ _))⟩))); try go_wp2_with (first | (go_at_call 51; (first | (with_reducible refine (impl_isValue.calls (wrap64 ((rd l0 a1_1) + a1_3)) false _ A52.out).mono ?_) | (simp only [i64_w, i32_w]; (with_reducible refine (impl_isValue.calls (wrap64 ((rd l0 a1_1) + a1_3)) false _ A52.out).mono ?_))); rintro e w' ⟨rfl, ⟨nd, rfl⟩⟩; (try first | exact ⟨rfl, _, World.drewN_drewN _ _ _⟩ | exact ⟨rfl, _, Eq.trans (World.drewN_drewN _ _ _) (congrArg (World.drewN _) (Nat.add_assoc _ _ _))⟩))))
                      go_ret3
                      exact ⟨_, by first | rfl | (simp [errW_none, errW_some] <;> rfl) | (simp [*, errW_none, errW_some] <;> rfl), by (with_reducible repeat (first | apply Kd.R_alloc | apply Kd.R_drewN | apply Kd.R_drew)); exact HO_7.out, by repeat (first | (with_reducible first | exact HB.out | apply below_alloc | apply pw_below_drewN | apply below_drew1 | refine below_set ?_ GE295.out) | exact HB.out)⟩
                  · rw [if_neg c51] at H
                    have c51b0 : (a1_0 == 5) = false := beq_eq_false_iff_ne.mpr c51
                    have c51b1 : (a1_0 != 5) = true := bne_iff_ne.mpr c51
                    simp only [Option.some.injEq, Prod.mk.injEq] at H
                    obtain ⟨rfl, rfl, rfl⟩ := H
                    have hcz61_0 : wc.cell? ⟨gb295, 0, none⟩ = some (.int .i64 a1_0) := (blk_cell BK295.out 0).trans rfl
                    have hcz61_1 : wc.cell? ⟨gb295, 1, none⟩ = some (.int .i64 a1_1) := (blk_cell BK295.out 1).trans rfl
                    have hcz61_2 : wc.cell? ⟨gb295, 2, none⟩ = some (.int .i64 a1_2) := (blk_cell BK295.out 2).trans rfl
                    have hcz61_3 : wc.cell? ⟨gb295, 3, none⟩ = some (.int .i64 a1_3) := (blk_cell BK295.out 3).trans rfl
                    have hfz61_0 := blk_frozen BK295.out 0
                    have hfz61_1 := blk_frozen BK295.out 1
                    have hfz61_2 := blk_frozen BK295.out 2
                    have hfz61_3 := blk_frozen BK295.out 3
                    have p305 : 0 ≤ (a1_1 : Int) := of_decide_eq_true (by first | (with_reducible assumption) | assumption)
                    have q305 : a1_1 < (l0.length : Int) := of_decide_eq_true (by first | (with_reducible assumption) | assumption)
                    obtain ⟨ad305, e305, hx305_0⟩ := Kd.at_int HR0.out a1_1 p305 q305
                    cases e305
                    replace hx305_0 := (HB.out.cell (World.block_lt_of_cell? w _ hx305_0)).trans hx305_0
                    replace p305 := eq_true p305
                    replace q305 := eq_true q305
                    go_wp2
                    repeat (go_quiet (fail); try go_wp2)
                    go_ret3
                    exact ⟨_, by first | rfl | (simp [errW_none, errW_some] <;> rfl) | (simp [*, errW_none, errW_some] <;> rfl), by (with_reducible repeat (first | apply Kd.R_alloc | apply Kd.R_drewN | apply Kd.R_drew)); exact HO_7.out, by repeat (first | (with_reducible first | exact HB.out | apply below_alloc | apply pw_below_drewN | apply below_drew1 | refine below_set ?_ GE295.out) | exact HB.out)⟩
          · rw [if_neg c29] at H
            exact absurd H (by simp)
        · rw [if_neg c28] at H
          exact absurd H (by simp)


end Go.Proofs.Ytbhlmgljflggeaa.M
namespace Go.Proofs.Ytbhlmgljflggeaa.M
open Go.RowKit Go.Proofs.YtbhlmgljflggeaaW.PrintWords Go.Proofs.YtbhlmgljflggeaaW.PrintLast Go.Proofs.YtbhlmgljflggeaaW.PrintMore
attribute [local go_sem] max2_int min2_int max_two min_two max_three min_three max_four min_four   -- for this text's walks alone
set_option linter.unusedVariables false
set_option linter.unusedSimpArgs false

def spec_Words.l0 : Nat → List (S34) → List Int → List Int → Bool → Int → Option (List Int × List Int × Bool)
  | 0, _, _, _, _, _ => none
  | k + 1, x1, x7, x8, x9, x10 => if x10 < (x1.length : Int) then (if 0 ≤ x10 then ((spec_Word.f k x7 ((rd_T34 x1 x10).f0) ((rd_T34 x1 x10).f1) ((rd_T34 x1 x10).f2) ((rd_T34 x1 x10).f3)).bind fun bt725 => (if x8.length < 17592186044416 then ((some (x8 ++ [bt725.2.1] : List Int)).bind fun y730 => (if x9 = true then (spec_Words.l0 k x1 bt725.1 y730 bt725.2.2 (wrap64 (x10 + 1))) else (spec_Words.l0 k x1 bt725.1 y730 false (wrap64 (x10 + 1))))) else (none))) else (none)) else (some (x7, x8, x9))
def spec_Words.f (k : Nat) (l0 : List Int) (l1 : List (S34)) : Option (List Int × List Int × Bool) := (spec_l1Copy.f l0).bind fun t718 => ((some (([] : List Int) : List Int)).bind fun y721 => (if (l1.length : Int) > 200 then (some (t718, y721, false)) else (spec_Words.l0 k l1 t718 y721 true 0)))
set_option maxHeartbeats 8000000 in
set_option maxRecDepth 100000 in
theorem spec_Words.calls (k : Nat) (A0 : Option Addr) (c0 : Nat) (l0 : List Int) (A1 : Option Addr) (c1 : Nat) (l1 : List (S34)) (r1 : List Int) (r2 : List Int) (r3 : Bool) (w : World) (hr0 : Kd.C (Kd.int .i64) w A0 l0.length l0) (hc0 : l0.length ≤ c0) (hr1 : Kd.C k34 w A1 l1.length l1) (hc1 : l1.length ≤ c1) (h : spec_Words.f k l0 l1 = some (r1, r2, r3)) :
    Calls Try.prog 36 #[.slice A0 l0.length c0, .slice A1 l1.length c1] w fun e w' => ∃ v0_ v1_ : Value, e = .returned (.tuple #[v0_, v1_, .bool r3]) ∧ Kd.R (Kd.int .i64) 3 w' w.heap.size (fun k_ => some k_ ≠ (v1_ : Value).ownBlock) v0_ r1 ∧ Kd.R (Kd.int .i64) 3 w' w.heap.size (fun k_ => some k_ ≠ (v0_ : Value).ownBlock) v1_ r2 ∧ Below w.heap.size w w' := by
  have hu34 := Try.underlying34
  have HR0 := Aside0.mk hr0
  have HC0 := Aside0.mk hc0
  clear hr0 hc0
  have HR1 := Aside0.mk hr1
  have HC1 := Aside0.mk hc1
  clear hr1 hc1
  have HB := Aside0.mk (Below.refl w.heap.size w)
  have H : ((spec_l1Copy.f l0).bind fun t718 => ((some (([] : List Int) : List Int)).bind fun y721 => (if (l1.length : Int) > 200 then (some (t718, y721, false)) else (spec_Words.l0 k l1 t718 y721 true 0)))) = some (r1, r2, r3) := h
  clear h
  replace H := Option.bind_eq_some_iff.mp H
  obtain ⟨t718, A30, H⟩ := H
  replace H : ((some (([] : List Int) : List Int)).bind fun y721 => (if (l1.length : Int) > 200 then (some (t718, y721, false)) else (spec_Words.l0 k l1 t718 y721 true 0))) = some (r1, r2, r3) := H
  have A3 := Aside0.mk A30
  clear A30
  obtain ⟨y721, hy721⟩ : ∃ y_ : List Int, y_ = (([] : List Int)) := ⟨_, rfl⟩
  replace H : (if (l1.length : Int) > 200 then (some (t718, y721, false)) else (spec_Words.l0 k l1 t718 y721 true 0)) = some (r1, r2, r3) := by first | (rw [hy721]; with_reducible exact H) | (have H2_ := (Option.bind_some _ _).symm.trans H; rw [hy721]; with_reducible exact H2_) | (have H2_ := (Option.bind_some _ _).symm.trans H; with_reducible exact H2_) | with_reducible exact H | (rw [hy721]; exact H) | exact H
  have Ny721 := Aside0.mk hy721
  clear hy721
  by_cases c4 : (l1.length : Int) > 200
  · rw [if_pos c4] at H
    have c4b0 : decide (200 < (l1.length : Int)) = true := decide_eq_true c4
    have c4b1 : decide (200 < l1.length) = true := decide_eq_true (by omega)
    clear c4
    simp only [Option.some.injEq, Prod.mk.injEq] at H
    obtain ⟨rfl, rfl, rfl⟩ := H
    go_enter Try.func36, Try.ntmps36
    go_wp2_with (first | ((with_reducible refine gate_callee (f := 44) rfl ?_); refine goesL_ (some 15) rfl rfl Try.func44 (by kernel_rfl) rfl #[.slice A0 l0.length c0] rfl (by (try simp only [List.map_toArray, List.map_cons, List.map_nil]); first | done | rfl | (simp only [List.length_drop, List.length_take]; rfl)) ?_; (with_reducible refine (spec_l1Copy.calls _ _ l0 t718 _ ?side1 ?side2 A3.out).mono ?_); (case side1 => repeat (first | exact HR0.out | (with_reducible refine Kd.C_alloc ?_ _) | (with_reducible refine Kd.C_drewN ?_ _) | (with_reducible refine Kd.C_drew ?_))); (case side2 => exact HC0.out); rintro e w5 ⟨v719, rfl, ho0, hb⟩; refine ⟨_, rfl, ?_⟩; have n0_ := Aside0.mk (Kd.R_lower ho0 (below_size (by repeat (first | (with_reducible first | exact HB.out | apply below_alloc | apply pw_below_drewN | apply below_drew1) | exact HB.out)))); have n1_ := Aside0.mk (below_step (by repeat (first | (with_reducible first | exact HB.out | apply below_alloc | apply pw_below_drewN | apply below_drew1) | exact HB.out)) hb); clear HB; have HO720 := n0_; have HB := n1_; clear n0_ n1_; (try clear hb); (try clear hb2); (try clear hk); (try clear hi); (try clear ho0)) | ((with_reducible refine gate_dst (N := 16) rfl ?_); refine Kd.R_lit (Kd.int .i64) _ 3 ?hg (N := 16) ?hd (xs := ([] : List Int)) (inner := []) (ok := fun _ => True) (okp := fun _ => True) ?hr ?hp (fun _ hk => hk) trivial (Below.refl _ _) (Nat.le_refl _) (by simp) ?_; (case hd => rfl); (case hg => rfl); (case hr => first | (go_simp; done) | (go_simp; rfl)); (case hp => exact (Reps.none _ _)); intro v722 w6 ho7 hb hg_ hnew_; clear hg_ hnew_; (first | rw [← Ny721.out] at ho7 | (simp only [Int.reduceToNat] at ho7; rw [← Ny721.out] at ho7)); have n0_ := Aside0.mk (Kd.R_elder' (by (with_reducible repeat (first | apply Kd.R_alloc | apply Kd.R_drewN | apply Kd.R_drew)); exact HO720.out) (Kd.R_base ho7) hb); have n1_ := Aside0.mk (Kd.R_lower (Kd.R_new' ho7 (Kd.R_lt (by (with_reducible repeat (first | apply Kd.R_alloc | apply Kd.R_drewN | apply Kd.R_drew)); exact HO720.out))) (below_size (by repeat (first | (with_reducible first | exact HB.out | apply below_alloc | apply pw_below_drewN | apply below_drew1) | exact HB.out)))); have n2_ := Aside0.mk (below_step (by repeat (first | (with_reducible first | exact HB.out | apply below_alloc | apply pw_below_drewN | apply below_drew1) | exact HB.out)) hb); clear HO720; clear HB; have HO720 := n0_; have HO723 := n1_; have HB := n2_; clear n0_ n1_ n2_; clear hb ho7))
    go_ret3
    exact ⟨_, _, by first | rfl | (simp [errW_none, errW_some] <;> rfl) | (simp [*, errW_none, errW_some] <;> rfl), by (with_reducible repeat (first | apply Kd.R_alloc | apply Kd.R_drewN | apply Kd.R_drew)); exact Kd.R_mono HO720.out (fun _ hk => hk.2), by (with_reducible repeat (first | apply Kd.R_alloc | apply Kd.R_drewN | apply Kd.R_drew)); exact Kd.R_mono HO723.out (fun _ hk => hk.2), by repeat (first | (with_reducible first | exact HB.out | apply below_alloc | apply pw_below_drewN | apply below_drew1) | exact HB.out)⟩
  · rw [if_neg c4] at H
    have c4b0 : decide (200 < (l1.length : Int)) = false := decide_eq_false c4
    have c4b1 : decide (200 < l1.length) = false := decide_eq_false (by omega)
    clear c4
    have H' := Aside0.mk H
    clear H
    go_enter Try.func36, Try.ntmps36
    go_wp2_with (first | ((with_reducible refine gate_callee (f := 44) rfl ?_); refine goesL_ (some 15) rfl rfl Try.func44 (by kernel_rfl) rfl #[.slice A0 l0.length c0] rfl (by (try simp only [List.map_toArray, List.map_cons, List.map_nil]); first | done | rfl | (simp only [List.length_drop, List.length_take]; rfl)) ?_; (with_reducible refine (spec_l1Copy.calls _ _ l0 t718 _ ?side1 ?side2 A3.out).mono ?_); (case side1 => repeat (first | exact HR0.out | (with_reducible refine Kd.C_alloc ?_ _) | (with_reducible refine Kd.C_drewN ?_ _) | (with_reducible refine Kd.C_drew ?_))); (case side2 => exact HC0.out); rintro e w8 ⟨v719, rfl, ho0, hb⟩; refine ⟨_, rfl, ?_⟩; have n0_ := Aside0.mk (Kd.R_lower ho0 (below_size (by repeat (first | (with_reducible first | exact HB.out | apply below_alloc | apply pw_below_drewN | apply below_drew1) | exact HB.out)))); have n1_ := Aside0.mk (below_step (by repeat (first | (with_reducible first | exact HB.out | apply below_alloc | apply pw_below_drewN | apply below_drew1) | exact HB.out)) hb); clear HB; have HO720 := n0_; have HB := n1_; clear n0_ n1_; (try clear hb); (try clear hb2); (try clear hk); (try clear hi); (try clear ho0)) | ((with_reducible refine gate_dst (N := 16) rfl ?_); refine Kd.R_lit (Kd.int .i64) _ 3 ?hg (N := 16) ?hd (xs := ([] : List Int)) (inner := []) (ok := fun _ => True) (okp := fun _ => True) ?hr ?hp (fun _ hk => hk) trivial (Below.refl _ _) (Nat.le_refl _) (by simp) ?_; (case hd => rfl); (case hg => rfl); (case hr => first | (go_simp; done) | (go_simp; rfl)); (case hp => exact (Reps.none _ _)); intro v722 w9 ho10 hb hg_ hnew_; clear hg_ hnew_; (first | rw [← Ny721.out] at ho10 | (simp only [Int.reduceToNat] at ho10; rw [← Ny721.out] at ho10)); have n0_ := Aside0.mk (Kd.R_elder' (by (with_reducible repeat (first | apply Kd.R_alloc | apply Kd.R_drewN | apply Kd.R_drew)); exact HO720.out) (Kd.R_base ho10) hb); have n1_ := Aside0.mk (Kd.R_lower (Kd.R_new' ho10 (Kd.R_lt (by (with_reducible repeat (first | apply Kd.R_alloc | apply Kd.R_drewN | apply Kd.R_drew)); exact HO720.out))) (below_size (by repeat (first | (with_reducible first | exact HB.out | apply below_alloc | apply pw_below_drewN | apply below_drew1) | exact HB.out)))); have n2_ := Aside0.mk (below_step (by repeat (first | (with_reducible first | exact HB.out | apply below_alloc | apply pw_below_drewN | apply below_drew1) | exact HB.out)) hb); clear HO720; clear HB; have HO720 := n0_; have HO723 := n1_; have HB := n2_; clear n0_ n1_ n2_; clear hb ho10))
    go_loopg [7, 8, 9, 10] k (fun kq v7 v8 v9 v10 w' => ∃ (x7_1 : List Int) (x8_1 : List Int) (x9_1 : Bool) (x10_1 : Int), v9 = .bool x9_1 ∧ v10 = .int .i64 x10_1 ∧ Aside0 (spec_Words.l0 kq l1 x7_1 x8_1 x9_1 x10_1 = some (r1, r2, r3)) ∧ Aside0 (kq ≤ k) ∧ Aside0 (Kd.R (Kd.int .i64) 3 w' w.heap.size (fun k_ => some k_ ≠ (v8 : Value).ownBlock) v7 x7_1) ∧ Aside0 (Kd.R (Kd.int .i64) 3 w' w.heap.size (fun k_ => some k_ ≠ (v7 : Value).ownBlock) v8 x8_1) ∧ Aside0 (Below w.heap.size w w'))
    case atStart => exact ⟨(t718), (y721), (true), (0), (by first | rfl | (simp; done) | (simp [*]; done)), (by first | rfl | (simp; done) | (simp [*]; done)), H', ⟨Nat.le_refl _⟩, ⟨by (with_reducible repeat (first | apply Kd.R_alloc | apply Kd.R_drewN | apply Kd.R_drew)); exact Kd.R_mono HO720.out (fun _ hk => hk.2)⟩, ⟨by (with_reducible repeat (first | apply Kd.R_alloc | apply Kd.R_drewN | apply Kd.R_drew)); exact Kd.R_mono HO723.out (fun _ hk => hk.2)⟩, ⟨by repeat (first | (with_reducible first | exact HB.out | apply below_alloc | apply pw_below_drewN | apply below_drew1) | exact HB.out)⟩⟩
    case round =>
      clear H'
      try clear c1
      try clear p2
      try clear c3
      try clear c4
      try clear c4b0
      try clear c4b1
      obtain ⟨x7_1, x8_1, x9_1, x10_1, rfl, rfl, HA, HK1, HO_7, HO_8, HB⟩ := hrel
      cases gk with
      | zero => exact absurd HA.out (by simp [spec_Words.l0])
      | succ k1 =>
        have H := HA.out
        clear HA
        simp only [spec_Words.l0] at H
        by_cases c11 : x10_1 < (l1.length : Int)
        · rw [if_pos c11] at H
          have c11b0 : decide (x10_1 < (l1.length : Int)) = true := decide_eq_true c11
          clear c11
          by_cases c12 : 0 ≤ x10_1
          · rw [if_pos c12] at H
            have c12b0 : decide (0 ≤ x10_1) = true := decide_eq_true c12
            clear c12
            replace H := Option.bind_eq_some_iff.mp H
            obtain ⟨⟨t725, t728, t729⟩, A130, H⟩ := H
            replace H : (if x8_1.length < 17592186044416 then ((some (x8_1 ++ [t728] : List Int)).bind fun y730 => (if x9_1 = true then (spec_Words.l0 k1 l1 t725 y730 t729 (wrap64 (x10_1 + 1))) else (spec_Words.l0 k1 l1 t725 y730 false (wrap64 (x10_1 + 1))))) else (none)) = some (r1, r2, r3) := H
            have A13 := Aside0.mk A130
            clear A130
            by_cases c14 : x8_1.length < 17592186044416
            · rw [if_pos c14] at H
              have LMc14 := Aside0.mk c14
              clear c14
              obtain ⟨y730, hy730⟩ : ∃ y_ : List Int, y_ = (x8_1 ++ [t728]) := ⟨_, rfl⟩
              replace H : (if x9_1 = true then (spec_Words.l0 k1 l1 t725 y730 t729 (wrap64 (x10_1 + 1))) else (spec_Words.l0 k1 l1 t725 y730 false (wrap64 (x10_1 + 1)))) = some (r1, r2, r3) := by first | (rw [hy730]; with_reducible exact H) | (have H2_ := (Option.bind_some _ _).symm.trans H; rw [hy730]; with_reducible exact H2_) | (have H2_ := (Option.bind_some _ _).symm.trans H; with_reducible exact H2_) | with_reducible exact H | (rw [hy730]; exact H) | exact H
              have Ny730 := Aside0.mk hy730
              clear hy730
              by_cases c15 : x9_1 = true
              · subst c15
                have H1 : (spec_Words.l0 k1 l1 t725 y730 t729 (wrap64 (x10_1 + 1))) = some (r1, r2, r3) := by rw [if_pos rfl] at H; exact H
                clear H
                have H := H1
                clear H1
                have H' := Aside0.mk H
                clear H
                have p724 : 0 ≤ (x10_1 : Int) := of_decide_eq_true (by first | (with_reducible assumption) | assumption)
                have q724 : x10_1 < (l1.length : Int) := of_decide_eq_true (by first | (with_reducible assumption) | assumption)
                obtain ⟨ad724, e724, hx724_0, hx724_1, hx724_2, hx724_3⟩ := at_T34 HR1.out x10_1 p724 q724
                cases e724
                replace hx724_0 := (HB.out.cell (World.block_lt_of_cell? w _ hx724_0)).trans hx724_0
                replace hx724_1 := (HB.out.cell (World.block_lt_of_cell? w _ hx724_1)).trans hx724_1
                replace hx724_2 := (HB.out.cell (World.block_lt_of_cell? w _ hx724_2)).trans hx724_2
                replace hx724_3 := (HB.out.cell (World.block_lt_of_cell? w _ hx724_3)).trans hx724_3
                replace p724 := eq_true p724
                replace q724 := eq_true q724
                obtain ⟨Ao16, co16, eo16⟩ := Kd.R_slice HO_7.out
                subst eo16
                go_wp2_with (first | ((with_reducible refine gate_callee (f := 19) rfl ?_); refine goesL_ (some 34) rfl rfl Try.func19 (by kernel_rfl) rfl #[.slice Ao16 x7_1.length co16, .agg #[.int .i64 ((rd_T34 l1 x10_1).f0), .int .i64 ((rd_T34 l1 x10_1).f1), .int .i64 ((rd_T34 l1 x10_1).f2), .int .i64 ((rd_T34 l1 x10_1).f3)]] rfl (by (try simp only [List.map_toArray, List.map_cons, List.map_nil]); first | done | rfl | (simp only [List.length_drop, List.length_take]; rfl)) ?_; (with_reducible refine (spec_Word.calls k1 _ _ x7_1 ((rd_T34 l1 x10_1).f0) ((rd_T34 l1 x10_1).f1) ((rd_T34 l1 x10_1).f2) ((rd_T34 l1 x10_1).f3) t725 t728 t729 _ ?side1 ?side2 A13.out).mono ?_); (case side1 => repeat (first | exact (Kd.R_reads' HO_7.out).2.2 | (with_reducible refine Kd.C_alloc ?_ _) | (with_reducible refine Kd.C_drewN ?_ _) | (with_reducible refine Kd.C_drew ?_))); (case side2 => exact (Kd.R_reads' HO_7.out).2.1); rintro e w17 ⟨v726, rfl, ho0, hb⟩; refine ⟨_, rfl, ?_⟩; have n0_ := Aside0.mk (Kd.R_elder' (by (with_reducible repeat (first | apply Kd.R_alloc | apply Kd.R_drewN | apply Kd.R_drew)); exact HO_7.out) (Kd.R_base ho0) hb); have n1_ := Aside0.mk (Kd.R_elder' (by (with_reducible repeat (first | apply Kd.R_alloc | apply Kd.R_drewN | apply Kd.R_drew)); exact HO_8.out) (Kd.R_base ho0) hb); have n2_ := Aside0.mk (Kd.R_lower (Kd.R_new' (Kd.R_new' ho0 (Kd.R_lt (by (with_reducible repeat (first | apply Kd.R_alloc | apply Kd.R_drewN | apply Kd.R_drew)); exact HO_7.out))) (Kd.R_lt (by (with_reducible repeat (first | apply Kd.R_alloc | apply Kd.R_drewN | apply Kd.R_drew)); exact HO_8.out))) (below_size (by repeat (first | (with_reducible first | exact HB.out | apply below_alloc | apply pw_below_drewN | apply below_drew1) | exact HB.out)))); have n3_ := Aside0.mk (below_step (by repeat (first | (with_reducible first | exact HB.out | apply below_alloc | apply pw_below_drewN | apply below_drew1) | exact HB.out)) hb); clear HO_7; clear HO_8; clear HB; have HO_7 := n0_; have HO_8 := n1_; have HO727 := n2_; have HB := n3_; clear n0_ n1_ n2_ n3_; (try clear hb); (try clear hb2); (try clear hk); (try clear hi); (try clear ho0)) | ((with_reducible refine gate_builtin (b := .append) (xs := #[.tmp 39, .tmp 41]) rfl ?_); at_builtin; refine Kd.R_append (Kd.int .i64) (w0 := w) w.heap.size rfl (.tmp 39) (.tmp 41) 22 3 (.int .i64 0) 8 rfl Try.underlying22 info3 rfl (by decide) (by omega) u8 x8_1 t728 [.int .i64 t728] (fun k_ => some k_ ≠ (.slice Ao16 x7_1.length co16 : Value).ownBlock ∧ some k_ ≠ (v726 : Value).ownBlock) (fun _ => False) rfl rfl ?aP (fun _ hk => hk.elim) ?aF ?aO ?aB ?aS ?aL ?_; (case aP => exact rfl); (case aB => exact (by repeat (first | (with_reducible first | exact HB.out | apply below_alloc | apply pw_below_drewN | apply below_drew1) | exact HB.out))); (case aF => exact (fun k_ hk => ⟨Kd.fresh' (Kd.R_lt (by (with_reducible repeat (first | apply Kd.R_alloc | apply Kd.R_drewN | apply Kd.R_drew)); exact HO_7.out)) k_ hk, Kd.fresh' (Kd.R_lt (by (with_reducible repeat (first | apply Kd.R_alloc | apply Kd.R_drewN | apply Kd.R_drew)); exact HO727.out)) k_ hk⟩)); (case aO => exact (by (with_reducible repeat (first | apply Kd.R_alloc | apply Kd.R_drewN | apply Kd.R_drew)); exact HO_8.out)); (case aS => exact (below_size (by repeat (first | (with_reducible first | exact HB.out | apply below_alloc | apply pw_below_drewN | apply below_drew1) | exact HB.out)))); (case aL => have := LMc14.out; omega); intro v731 w18 ho hb hg hat; rw [← Ny730.out] at ho; have n0_ := Aside0.mk (Kd.R_after (ok := (fun k_ => some k_ ≠ (v726 : Value).ownBlock)) (by (with_reducible repeat (first | apply Kd.R_alloc | apply Kd.R_drewN | apply Kd.R_drew)); exact Kd.R_mono HO_7.out (fun _ hk => ⟨hk.2, hk.1⟩)) hg hat); have n1_ := Aside0.mk (Kd.R_after (ok := (fun k_ => some k_ ≠ (.slice Ao16 x7_1.length co16 : Value).ownBlock)) (by (with_reducible repeat (first | apply Kd.R_alloc | apply Kd.R_drewN | apply Kd.R_drew)); exact Kd.R_mono HO727.out (fun _ hk => ⟨hk.1.2, hk.2⟩)) hg hat); have n2_ := Aside0.mk (hb); have n3_ := Aside0.mk (ho); clear HO_7; clear HO727; clear HB; clear HO_8; have HO_7 := n0_; have HO727 := n1_; have HB := n2_; have HO732 := n3_; clear n0_ n1_ n2_ n3_; clear ho hb hg hat))
                go_roundg k1
                case measure => have := HK1.out; omega
                case rel => exact ⟨(t725), (y730), (t729), (wrap64 (x10_1 + 1)), (by first | rfl | (simp; done) | (simp [*]; done)), (by first | rfl | (simp; done) | (simp [*]; done)), H', ⟨by have := HK1.out; omega⟩, ⟨by (with_reducible repeat (first | apply Kd.R_alloc | apply Kd.R_drewN | apply Kd.R_drew)); exact Kd.R_mono HO727.out (fun _ hk => hk.2)⟩, ⟨by (with_reducible repeat (first | apply Kd.R_alloc | apply Kd.R_drewN | apply Kd.R_drew)); exact Kd.R_mono HO732.out (fun _ hk => hk.2)⟩, ⟨by repeat (first | (with_reducible first | exact HB.out | apply below_alloc | apply pw_below_drewN | apply below_drew1) | exact HB.out)⟩⟩
              · replace c15 := Bool.eq_false_iff.mpr c15
                subst c15
                have H1 : (spec_Words.l0 k1 l1 t725 y730 false (wrap64 (x10_1 + 1))) = some (r1, r2, r3) := by rw [if_neg (show ¬ (false = true) by decide)] at H; exact H
                clear H
                have H := H1
                clear H1
                have H' := Aside0.mk H
                clear H
                have p724 : 0 ≤ (x10_1 : Int) := of_decide_eq_true (by first | (with_reducible assumption) | assumption)
                have q724 : x10_1 < (l1.length : Int) := of_decide_eq_true (by first | (with_reducible assumption) | assumption)
                obtain ⟨ad724, e724, hx724_0, hx724_1, hx724_2, hx724_3⟩ := at_T34 HR1.out x10_1 p724 q724
                cases e724
                replace hx724_0 := (HB.out.cell (World.block_lt_of_cell? w _ hx724_0)).trans hx724_0
                replace hx724_1 := (HB.out.cell (World.block_lt_of_cell? w _ hx724_1)).trans hx724_1
                replace hx724_2 := (HB.out.cell (World.block_lt_of_cell? w _ hx724_2)).trans hx724_2
                replace hx724_3 := (HB.out.cell (World.block_lt_of_cell? w _ hx724_3)).trans hx724_3
                replace p724 := eq_true p724
                replace q724 := eq_true q724
                obtain ⟨Ao19, co19, eo19⟩ := Kd.R_slice HO_7.out
                subst eo19
                go_wp2_with (first | ((with_reducible refine gate_callee (f := 19) rfl ?_); refine goesL_ (some 34) rfl rfl Try.func19 (by kernel_rfl) rfl #[.slice Ao19 x7_1.length co19, .agg #[.int .i64 ((rd_T34 l1 x10_1).f0), .int .i64 ((rd_T34 l1 x10_1).f1), .int .i64 ((rd_T34 l1 x10_1).f2), .int .i64 ((rd_T34 l1 x10_1).f3)]] rfl (by (try simp only [List.map_toArray, List.map_cons, List.map_nil]); first | done | rfl | (simp only [List.length_drop, List.length_take]; rfl)) ?_; (with_reducible refine (spec_Word.calls k1 _ _ x7_1 ((rd_T34 l1 x10_1).f0) ((rd_T34 l1 x10_1).f1) ((rd_T34 l1 x10_1).f2) ((rd_T34 l1 x10_1).f3) t725 t728 t729 _ ?side1 ?side2 A13.out).mono ?_); (case side1 => repeat (first | exact (Kd.R_reads' HO_7.out).2.2 | (with_reducible refine Kd.C_alloc ?_ _) | (with_reducible refine Kd.C_drewN ?_ _) | (with_reducible refine Kd.C_drew ?_))); (case side2 => exact (Kd.R_reads' HO_7.out).2.1); rintro e w20 ⟨v726, rfl, ho0, hb⟩; refine ⟨_, rfl, ?_⟩; have n0_ := Aside0.mk (Kd.R_elder' (by (with_reducible repeat (first | apply Kd.R_alloc | apply Kd.R_drewN | apply Kd.R_drew)); exact HO_7.out) (Kd.R_base ho0) hb); have n1_ := Aside0.mk (Kd.R_elder' (by (with_reducible repeat (first | apply Kd.R_alloc | apply Kd.R_drewN | apply Kd.R_drew)); exact HO_8.out) (Kd.R_base ho0) hb); have n2_ := Aside0.mk (Kd.R_lower (Kd.R_new' (Kd.R_new' ho0 (Kd.R_lt (by (with_reducible repeat (first | apply Kd.R_alloc | apply Kd.R_drewN | apply Kd.R_drew)); exact HO_7.out))) (Kd.R_lt (by (with_reducible repeat (first | apply Kd.R_alloc | apply Kd.R_drewN | apply Kd.R_drew)); exact HO_8.out))) (below_size (by repeat (first | (with_reducible first | exact HB.out | apply below_alloc | apply pw_below_drewN | apply below_drew1) | exact HB.out)))); have n3_ := Aside0.mk (below_step (by repeat (first | (with_reducible first | exact HB.out | apply below_alloc | apply pw_below_drewN | apply below_drew1) | exact HB.out)) hb); clear HO_7; clear HO_8; clear HB; have HO_7 := n0_; have HO_8 := n1_; have HO727 := n2_; have HB := n3_; clear n0_ n1_ n2_ n3_; (try clear hb); (try clear hb2); (try clear hk); (try clear hi); (try clear ho0)) | ((with_reducible refine gate_builtin (b := .append) (xs := #[.tmp 39, .tmp 41]) rfl ?_); at_builtin; refine Kd.R_append (Kd.int .i64) (w0 := w) w.heap.size rfl (.tmp 39) (.tmp 41) 22 3 (.int .i64 0) 8 rfl Try.underlying22 info3 rfl (by decide) (by omega) u8 x8_1 t728 [.int .i64 t728] (fun k_ => some k_ ≠ (.slice Ao19 x7_1.length co19 : Value).ownBlock ∧ some k_ ≠ (v726 : Value).ownBlock) (fun _ => False) rfl rfl ?aP (fun _ hk => hk.elim) ?aF ?aO ?aB ?aS ?aL ?_; (case aP => exact rfl); (case aB => exact (by repeat (first | (with_reducible first | exact HB.out | apply below_alloc | apply pw_below_drewN | apply below_drew1) | exact HB.out))); (case aF => exact (fun k_ hk => ⟨Kd.fresh' (Kd.R_lt (by (with_reducible repeat (first | apply Kd.R_alloc | apply Kd.R_drewN | apply Kd.R_drew)); exact HO_7.out)) k_ hk, Kd.fresh' (Kd.R_lt (by (with_reducible repeat (first | apply Kd.R_alloc | apply Kd.R_drewN | apply Kd.R_drew)); exact HO727.out)) k_ hk⟩)); (case aO => exact (by (with_reducible repeat (first | apply Kd.R_alloc | apply Kd.R_drewN | apply Kd.R_drew)); exact HO_8.out)); (case aS => exact (below_size (by repeat (first | (with_reducible first | exact HB.out | apply below_alloc | apply pw_below_drewN | apply below_drew1) | exact HB.out)))); (case aL => have := LMc14.out; omega); intro v731 w21 ho hb hg hat; rw [← Ny730.out] at ho; have n0_ := Aside0.mk (Kd.R_after (ok := (fun k_ => some k_ ≠ (v726 : Value).ownBlock)) (by (with_reducible repeat (first | apply Kd.R_alloc | apply Kd.R_drewN | apply Kd.R_drew)); exact Kd.R_mono HO_7.out (fun _ hk => ⟨hk.2, hk.1⟩)) hg hat); have n1_ := Aside0.mk (Kd.R_after (ok := (fun k_ => some k_ ≠ (.slice Ao19 x7_1.length co19 : Value).ownBlock)) (by (with_reducible repeat (first | apply Kd.R_alloc | apply Kd.R_drewN | apply Kd.R_drew)); exact Kd.R_mono HO727.out (fun _ hk => ⟨hk.1.2, hk.2⟩)) hg hat); have n2_ := Aside0.mk (hb); have n3_ := Aside0.mk (ho); clear HO_7; clear HO727; clear HB; clear HO_8; have HO_7 := n0_; have HO727 := n1_; have HB := n2_; have HO732 := n3_; clear n0_ n1_ n2_ n3_; clear ho hb hg hat))
                go_roundg k1
                case measure => have := HK1.out; omega
                case rel => exact ⟨(t725), (y730), (false), (wrap64 (x10_1 + 1)), (by first | rfl | (simp; done) | (simp [*]; done)), (by first | rfl | (simp; done) | (simp [*]; done)), H', ⟨by have := HK1.out; omega⟩, ⟨by (with_reducible repeat (first | apply Kd.R_alloc | apply Kd.R_drewN | apply Kd.R_drew)); exact Kd.R_mono HO727.out (fun _ hk => hk.2)⟩, ⟨by (with_reducible repeat (first | apply Kd.R_alloc | apply Kd.R_drewN | apply Kd.R_drew)); exact Kd.R_mono HO732.out (fun _ hk => hk.2)⟩, ⟨by repeat (first | (with_reducible first | exact HB.out | apply below_alloc | apply pw_below_drewN | apply below_drew1) | exact HB.out)⟩⟩
            · rw [if_neg c14] at H
              exact absurd H (by simp)
          · rw [if_neg c12] at H
            exact absurd H (by simp)
        · rw [if_neg c11] at H
          have c11b0 : decide (x10_1 < (l1.length : Int)) = false := decide_eq_false c11
          clear c11
          simp only [Option.some.injEq, Prod.mk.injEq] at H
          obtain ⟨rfl, rfl, rfl⟩ := H
          go_wp2
          go_ret3
          exact ⟨_, _, by first | rfl | (simp [errW_none, errW_some] <;> rfl) | (simp [*, errW_none, errW_some] <;> rfl), by (with_reducible repeat (first | apply Kd.R_alloc | apply Kd.R_drewN | apply Kd.R_drew)); exact HO_7.out, by (with_reducible repeat (first | apply Kd.R_alloc | apply Kd.R_drewN | apply Kd.R_drew)); exact HO_8.out, by repeat (first | (with_reducible first | exact HB.out | apply below_alloc | apply pw_below_drewN | apply below_drew1) | exact HB.out)⟩

def impl_Words.l0 : Nat → List Int → List Int → Bool → List (S34) → Int → Int → Option (List Int × List Int × Bool)
  | 0, _, _, _, _, _, _ => none
  | k + 1, x7, x8, x9, x23, x24, x25 => if x25 < x24 then (if 0 ≤ x25 then (if x25 < (x23.length : Int) then ((impl_Word.f k x7 ((rd_T34 x23 x25).f0) ((rd_T34 x23 x25).f1) ((rd_T34 x23 x25).f2) ((rd_T34 x23 x25).f3)).bind fun bt741 => (if x8.length < 17592186044416 then ((some (x8 ++ [bt741.2.1] : List Int)).bind fun y746 => (if x9 = true then (impl_Words.l0 k bt741.1 y746 bt741.2.2 x23 x24 (wrap64 (x25 + 1))) else (impl_Words.l0 k bt741.1 y746 false x23 x24 (wrap64 (x25 + 1))))) else (none))) else (none)) else (none)) else (some (x7, x8, x9))
def impl_Words.f (k : Nat) (l0 : List Int) (l1 : List (S34)) : Option (List Int × List Int × Bool) := (impl_own.f l0).bind fun t733 => ((some (([] : List Int) : List Int)).bind fun y736 => (if (l1.length : Int) > 200 then (some (t733, y736, false)) else (impl_Words.l0 k t733 y736 true l1 (l1.length : Int) 0)))
set_option maxHeartbeats 8000000 in
set_option maxRecDepth 100000 in
theorem impl_Words.calls (k : Nat) (A0 : Option Addr) (c0 : Nat) (l0 : List Int) (A1 : Option Addr) (c1 : Nat) (l1 : List (S34)) (r1 : List Int) (r2 : List Int) (r3 : Bool) (w : World) (hr0 : Kd.C (Kd.int .i64) w A0 l0.length l0) (hc0 : l0.length ≤ c0) (hr1 : Kd.C k34 w A1 l1.length l1) (hc1 : l1.length ≤ c1) (h : impl_Words.f k l0 l1 = some (r1, r2, r3)) :
    Calls Try.prog 37 #[.slice A0 l0.length c0, .slice A1 l1.length c1] w fun e w' => ∃ v0_ v1_ : Value, e = .returned (.tuple #[v0_, v1_, .bool r3]) ∧ Kd.R (Kd.int .i64) 3 w' w.heap.size (fun k_ => some k_ ≠ (v1_ : Value).ownBlock) v0_ r1 ∧ Kd.R (Kd.int .i64) 3 w' w.heap.size (fun k_ => some k_ ≠ (v0_ : Value).ownBlock) v1_ r2 ∧ Below w.heap.size w w' := by
  have hu34 := Try.underlying34
  have HR0 := Aside0.mk hr0
  have HC0 := Aside0.mk hc0
  clear hr0 hc0
  have HR1 := Aside0.mk hr1
  have HC1 := Aside0.mk hc1
  clear hr1 hc1
  have HB := Aside0.mk (Below.refl w.heap.size w)
  have H : ((impl_own.f l0).bind fun t733 => ((some (([] : List Int) : List Int)).bind fun y736 => (if (l1.length : Int) > 200 then (some (t733, y736, false)) else (impl_Words.l0 k t733 y736 true l1 (l1.length : Int) 0)))) = some (r1, r2, r3) := h
  clear h
  replace H := Option.bind_eq_some_iff.mp H
  obtain ⟨t733, A30, H⟩ := H
  replace H : ((some (([] : List Int) : List Int)).bind fun y736 => (if (l1.length : Int) > 200 then (some (t733, y736, false)) else (impl_Words.l0 k t733 y736 true l1 (l1.length : Int) 0))) = some (r1, r2, r3) := H
  have A3 := Aside0.mk A30
  clear A30
  obtain ⟨y736, hy736⟩ : ∃ y_ : List Int, y_ = (([] : List Int)) := ⟨_, rfl⟩
  replace H : (if (l1.length : Int) > 200 then (some (t733, y736, false)) else (impl_Words.l0 k t733 y736 true l1 (l1.length : Int) 0)) = some (r1, r2, r3) := by first | (rw [hy736]; with_reducible exact H) | (have H2_ := (Option.bind_some _ _).symm.trans H; rw [hy736]; with_reducible exact H2_) | (have H2_ := (Option.bind_some _ _).symm.trans H; with_reducible exact H2_) | with_reducible exact H | (rw [hy736]; exact H) | exact H
  have Ny736 := Aside0.mk hy736
  clear hy736
  by_cases c4 : (l1.length : Int) > 200
  · rw [if_pos c4] at H
    have c4b0 : decide (200 < (l1.length : Int)) = true := decide_eq_true c4
    have c4b1 : decide (200 < l1.length) = true := decide_eq_true (by omega)
    clear c4
    simp only [Option.some.injEq, Prod.mk.injEq] at H
    obtain ⟨rfl, rfl, rfl⟩ := H
    go_enter Try.func37, Try.ntmps37
    go_wp2_with (first | ((with_reducible refine gate_callee (f := 47) rfl ?_); refine goesL_ (some 16) rfl rfl Try.func47 (by kernel_rfl) rfl #[.slice A0 l0.length c0] rfl (by (try simp only [List.map_toArray, List.map_cons, List.map_nil]); first | done | rfl | (simp only [List.length_drop, List.length_take]; rfl)) ?_; (with_reducible refine (impl_own.calls _ _ l0 t733 _ ?side1 ?side2 A3.out).mono ?_); (case side1 => repeat (first | exact HR0.out | (with_reducible refine Kd.C_alloc ?_ _) | (with_reducible refine Kd.C_drewN ?_ _) | (with_reducible refine Kd.C_drew ?_))); (case side2 => exact HC0.out); rintro e w5 ⟨v734, rfl, ho0, hb⟩; refine ⟨_, rfl, ?_⟩; have n0_ := Aside0.mk (Kd.R_lower ho0 (below_size (by repeat (first | (with_reducible first | exact HB.out | apply below_alloc | apply pw_below_drewN | apply below_drew1) | exact HB.out)))); have n1_ := Aside0.mk (below_step (by repeat (first | (with_reducible first | exact HB.out | apply below_alloc | apply pw_below_drewN | apply below_drew1) | exact HB.out)) hb); clear HB; have HO735 := n0_; have HB := n1_; clear n0_ n1_; (try clear hb); (try clear hb2); (try clear hk); (try clear hi); (try clear ho0)) | ((with_reducible refine gate_dst (N := 17) rfl ?_); refine Kd.R_lit (Kd.int .i64) _ 3 ?hg (N := 17) ?hd (xs := ([] : List Int)) (inner := []) (ok := fun _ => True) (okp := fun _ => True) ?hr ?hp (fun _ hk => hk) trivial (Below.refl _ _) (Nat.le_refl _) (by simp) ?_; (case hd => rfl); (case hg => rfl); (case hr => first | (go_simp; done) | (go_simp; rfl)); (case hp => exact (Reps.none _ _)); intro v737 w6 ho7 hb hg_ hnew_; clear hg_ hnew_; (first | rw [← Ny736.out] at ho7 | (simp only [Int.reduceToNat] at ho7; rw [← Ny736.out] at ho7)); have n0_ := Aside0.mk (Kd.R_elder' (by (with_reducible repeat (first | apply Kd.R_alloc | apply Kd.R_drewN | apply Kd.R_drew)); exact HO735.out) (Kd.R_base ho7) hb); have n1_ := Aside0.mk (Kd.R_lower (Kd.R_new' ho7 (Kd.R_lt (by (with_reducible repeat (first | apply Kd.R_alloc | apply Kd.R_drewN | apply Kd.R_drew)); exact HO735.out))) (below_size (by repeat (first | (with_reducible first | exact HB.out | apply below_alloc | apply pw_below_drewN | apply below_drew1) | exact HB.out)))); have n2_ := Aside0.mk (below_step (by repeat (first | (with_reducible first | exact HB.out | apply below_alloc | apply pw_below_drewN | apply below_drew1) | exact HB.out)) hb); clear HO735; clear HB; have HO735 := n0_; have HO738 := n1_; have HB := n2_; clear n0_ n1_ n2_; clear hb ho7))
    go_ret3
    exact ⟨_, _, by first | rfl | (simp [errW_none, errW_some] <;> rfl) | (simp [*, errW_none, errW_some] <;> rfl), by (with_reducible repeat (first | apply Kd.R_alloc | apply Kd.R_drewN | apply Kd.R_drew)); exact Kd.R_mono HO735.out (fun _ hk => hk.2), by (with_reducible repeat (first | apply Kd.R_alloc | apply Kd.R_drewN | apply Kd.R_drew)); exact Kd.R_mono HO738.out (fun _ hk => hk.2), by repeat (first | (with_reducible first | exact HB.out | apply below_alloc | apply pw_below_drewN | apply below_drew1) | exact HB.out)⟩
  · rw [if_neg c4] at H
    have c4b0 : decide (200 < (l1.length : Int)) = false := decide_eq_false c4
    have c4b1 : decide (200 < l1.length) = false := decide_eq_false (by omega)
    clear c4
    have H' := Aside0.mk H
    clear H
    go_enter Try.func37, Try.ntmps37
    go_wp2_with (first | ((with_reducible refine gate_callee (f := 47) rfl ?_); refine goesL_ (some 16) rfl rfl Try.func47 (by kernel_rfl) rfl #[.slice A0 l0.length c0] rfl (by (try simp only [List.map_toArray, List.map_cons, List.map_nil]); first | done | rfl | (simp only [List.length_drop, List.length_take]; rfl)) ?_; (with_reducible refine (impl_own.calls _ _ l0 t733 _ ?side1 ?side2 A3.out).mono ?_); (case side1 => repeat (first | exact HR0.out | (with_reducible refine Kd.C_alloc ?_ _) | (with_reducible refine Kd.C_drewN ?_ _) | (with_reducible refine Kd.C_drew ?_))); (case side2 => exact HC0.out); rintro e w8 ⟨v734, rfl, ho0, hb⟩; refine ⟨_, rfl, ?_⟩; have n0_ := Aside0.mk (Kd.R_lower ho0 (below_size (by repeat (first | (with_reducible first | exact HB.out | apply below_alloc | apply pw_below_drewN | apply below_drew1) | exact HB.out)))); have n1_ := Aside0.mk (below_step (by repeat (first | (with_reducible first | exact HB.out | apply below_alloc | apply pw_below_drewN | apply below_drew1) | exact HB.out)) hb); clear HB; have HO735 := n0_; have HB := n1_; clear n0_ n1_; (try clear hb); (try clear hb2); (try clear hk); (try clear hi); (try clear ho0)) | ((with_reducible refine gate_dst (N := 17) rfl ?_); refine Kd.R_lit (Kd.int .i64) _ 3 ?hg (N := 17) ?hd (xs := ([] : List Int)) (inner := []) (ok := fun _ => True) (okp := fun _ => True) ?hr ?hp (fun _ hk => hk) trivial (Below.refl _ _) (Nat.le_refl _) (by simp) ?_; (case hd => rfl); (case hg => rfl); (case hr => first | (go_simp; done) | (go_simp; rfl)); (case hp => exact (Reps.none _ _)); intro v737 w9 ho10 hb hg_ hnew_; clear hg_ hnew_; (first | rw [← Ny736.out] at ho10 | (simp only [Int.reduceToNat] at ho10; rw [← Ny736.out] at ho10)); have n0_ := Aside0.mk (Kd.R_elder' (by (with_reducible repeat (first | apply Kd.R_alloc | apply Kd.R_drewN | apply Kd.R_drew)); exact HO735.out) (Kd.R_base ho10) hb); have n1_ := Aside0.mk (Kd.R_lower (Kd.R_new' ho10 (Kd.R_lt (by (with_reducible repeat (first | apply Kd.R_alloc | apply Kd.R_drewN | apply Kd.R_drew)); exact HO735.out))) (below_size (by repeat (first | (with_reducible first | exact HB.out | apply below_alloc | apply pw_below_drewN | apply below_drew1) | exact HB.out)))); have n2_ := Aside0.mk (below_step (by repeat (first | (with_reducible first | exact HB.out | apply below_alloc | apply pw_below_drewN | apply below_drew1) | exact HB.out)) hb); clear HO735; clear HB; have HO735 := n0_; have HO738 := n1_; have HB := n2_; clear n0_ n1_ n2_; clear hb ho10))
    go_loopg [7, 8, 9, 25] k (fun kq v7 v8 v9 v25 w' => ∃ (x7_1 : List Int) (x8_1 : List Int) (x9_1 : Bool) (x25_1 : Int), v9 = .bool x9_1 ∧ v25 = .int .i64 x25_1 ∧ Aside0 (impl_Words.l0 kq x7_1 x8_1 x9_1 l1 (l1.length : Int) x25_1 = some (r1, r2, r3)) ∧ Aside0 (kq ≤ k) ∧ Aside0 (Kd.R (Kd.int .i64) 3 w' w.heap.size (fun k_ => some k_ ≠ (v8 : Value).ownBlock) v7 x7_1) ∧ Aside0 (Kd.R (Kd.int .i64) 3 w' w.heap.size (fun k_ => some k_ ≠ (v7 : Value).ownBlock) v8 x8_1) ∧ Aside0 (Below w.heap.size w w'))
    case atStart => exact ⟨(t733), (y736), (true), (0), (by first | rfl | (simp; done) | (simp [*]; done)), (by first | rfl | (simp; done) | (simp [*]; done)), H', ⟨Nat.le_refl _⟩, ⟨by (with_reducible repeat (first | apply Kd.R_alloc | apply Kd.R_drewN | apply Kd.R_drew)); exact Kd.R_mono HO735.out (fun _ hk => hk.2)⟩, ⟨by (with_reducible repeat (first | apply Kd.R_alloc | apply Kd.R_drewN | apply Kd.R_drew)); exact Kd.R_mono HO738.out (fun _ hk => hk.2)⟩, ⟨by repeat (first | (with_reducible first | exact HB.out | apply below_alloc | apply pw_below_drewN | apply below_drew1) | exact HB.out)⟩⟩
    case round =>
      clear H'
      try clear c1
      try clear p2
      try clear c3
      try clear c4
      try clear c4b0
      try clear c4b1
      obtain ⟨x7_1, x8_1, x9_1, x25_1, rfl, rfl, HA, HK1, HO_7, HO_8, HB⟩ := hrel
      cases gk with
      | zero => exact absurd HA.out (by simp [impl_Words.l0])
      | succ k1 =>
        have H := HA.out
        clear HA
        simp only [impl_Words.l0] at H
        by_cases c11 : x25_1 < (l1.length : Int)
        · rw [if_pos c11] at H
          have c11b0 : decide (x25_1 < (l1.length : Int)) = true := decide_eq_true c11
          clear c11
          by_cases c12 : 0 ≤ x25_1
          · rw [if_pos c12] at H
            have c12b0 : decide (0 ≤ x25_1) = true := decide_eq_true c12
            clear c12
            by_cases c13 : x25_1 < (l1.length : Int)
            · rw [if_pos c13] at H
              have c13b0 : decide (x25_1 < (l1.length : Int)) = true := decide_eq_true c13
              clear c13
              replace H := Option.bind_eq_some_iff.mp H
              obtain ⟨⟨t741, t744, t745⟩, A140, H⟩ := H
              replace H : (if x8_1.length < 17592186044416 then ((some (x8_1 ++ [t744] : List Int)).bind fun y746 => (if x9_1 = true then (impl_Words.l0 k1 t741 y746 t745 l1 (l1.length : Int) (wrap64 (x25_1 + 1))) else (impl_Words.l0 k1 t741 y746 false l1 (l1.length : Int) (wrap64 (x25_1 + 1))))) else (none)) = some (r1, r2, r3) := H
              have A14 := Aside0.mk A140
              clear A140
              by_cases c15 : x8_1.length < 17592186044416
              · rw [if_pos c15] at H
                have LMc15 := Aside0.mk c15
                clear c15
                obtain ⟨y746, hy746⟩ : ∃ y_ : List Int, y_ = (x8_1 ++ [t744]) := ⟨_, rfl⟩
                replace H : (if x9_1 = true then (impl_Words.l0 k1 t741 y746 t745 l1 (l1.length : Int) (wrap64 (x25_1 + 1))) else (impl_Words.l0 k1 t741 y746 false l1 (l1.length : Int) (wrap64 (x25_1 + 1)))) = some (r1, r2, r3) := by first | (rw [hy746]; with_reducible exact H) | (have H2_ := (Option.bind_some _ _).symm.trans H; rw [hy746]; with_reducible exact H2_) | (have H2_ := (Option.bind_some _ _).symm.trans H; with_reducible exact H2_) | with_reducible exact H | (rw [hy746]; exact H) | exact H
                have Ny746 := Aside0.mk hy746
                clear hy746
                by_cases c16 : x9_1 = true
                · subst c16
                  have H1 : (impl_Words.l0 k1 t741 y746 t745 l1 (l1.length : Int) (wrap64 (x25_1 + 1))) = some (r1, r2, r3) := by rw [if_pos rfl] at H; exact H
                  clear H
                  have H := H1
                  clear H1
                  have H' := Aside0.mk H
                  clear H
                  have p739 : 0 ≤ (x25_1 : Int) := of_decide_eq_true (by first | (with_reducible assumption) | assumption)
                  have q739 : x25_1 < (l1.length : Int) := of_decide_eq_true (by first | (with_reducible assumption) | assumption)
                  obtain ⟨ad739, e739, hx739_0, hx739_1, hx739_2, hx739_3⟩ := at_T34 HR1.out x25_1 p739 q739
                  cases e739
                  replace hx739_0 := (HB.out.cell (World.block_lt_of_cell? w _ hx739_0)).trans hx739_0
                  replace hx739_1 := (HB.out.cell (World.block_lt_of_cell? w _ hx739_1)).trans hx739_1
                  replace hx739_2 := (HB.out.cell (World.block_lt_of_cell? w _ hx739_2)).trans hx739_2
                  replace hx739_3 := (HB.out.cell (World.block_lt_of_cell? w _ hx739_3)).trans hx739_3
                  replace p739 := eq_true p739
                  replace q739 := eq_true q739
                  go_wp2_with (first | ((with_reducible refine gate_dst (N := 11) rfl ?_); refine box_event ?hg (N := 11) ?hd (cs := #[.int .i64 0, .int .i64 0, .int .i64 0, .int .i64 0]) (t := 34) ?hr ?_; (case hd => rfl); (case hg => rfl); (case hr => first | (go_simp; done) | (go_simp; rfl)); intro gb740 hg w17 hbox hb; have n0_ := Aside0.mk (Kd.R_below (by (with_reducible repeat (first | apply Kd.R_alloc | apply Kd.R_drewN | apply Kd.R_drew)); exact HO_7.out) hb); have n1_ := Aside0.mk (Kd.R_below (by (with_reducible repeat (first | apply Kd.R_alloc | apply Kd.R_drewN | apply Kd.R_drew)); exact HO_8.out) hb); have n2_ := Aside0.mk (below_step (by repeat (first | (with_reducible first | exact HB.out | apply below_alloc | apply pw_below_drewN | apply below_drew1) | exact HB.out)) hb); have n3_ := Aside0.mk (hbox); have n4_ := Aside0.mk ((by rw [hg]; exact (below_size (by repeat (first | (with_reducible first | exact HB.out | apply below_alloc | apply pw_below_drewN | apply below_drew1) | exact HB.out))) : w.heap.size ≤ gb740)); have n5_ := Aside0.mk ((by rw [hg]; exact (below_size (by repeat (first | (with_reducible first | exact HB.out | apply below_alloc | apply pw_below_drewN | apply below_drew1) | exact HB.out))) : w.heap.size ≤ gb740)); clear HO_7; clear HO_8; clear HB; have HO_7 := n0_; have HO_8 := n1_; have HB := n2_; have BK740 := n3_; have GW740 := n4_; have GE740 := n5_; clear n0_ n1_ n2_ n3_ n4_ n5_; clear hb hbox hg; have hcz18_0 : w17.cell? ⟨gb740, 0, none⟩ = some (.int .i64 0) := (blk_cell BK740.out 0).trans rfl; have hcz18_1 : w17.cell? ⟨gb740, 1, none⟩ = some (.int .i64 0) := (blk_cell BK740.out 1).trans rfl; have hcz18_2 : w17.cell? ⟨gb740, 2, none⟩ = some (.int .i64 0) := (blk_cell BK740.out 2).trans rfl; have hcz18_3 : w17.cell? ⟨gb740, 3, none⟩ = some (.int .i64 0) := (blk_cell BK740.out 3).trans rfl; have hfz18_0 := blk_frozen BK740.out 0; have hfz18_1 := blk_frozen BK740.out 1; have hfz18_2 := blk_frozen BK740.out 2; have hfz18_3 := blk_frozen BK740.out 3; obtain ⟨Ao19, co19, eo19⟩ := Kd.R_slice HO_7.out; subst eo19) | ((with_reducible refine gate_callee (f := 21) rfl ?_); refine goesL_ (some 32) rfl rfl Try.func21 (by kernel_rfl) rfl #[.slice Ao19 x7_1.length co19, .agg #[.int .i64 ((rd_T34 l1 x25_1).f0), .int .i64 ((rd_T34 l1 x25_1).f1), .int .i64 ((rd_T34 l1 x25_1).f2), .int .i64 ((rd_T34 l1 x25_1).f3)]] rfl (by (try simp only [List.map_toArray, List.map_cons, List.map_nil]); first | done | rfl | (simp only [List.length_drop, List.length_take]; rfl)) ?_; (with_reducible refine (impl_Word.calls k1 _ _ x7_1 ((rd_T34 l1 x25_1).f0) ((rd_T34 l1 x25_1).f1) ((rd_T34 l1 x25_1).f2) ((rd_T34 l1 x25_1).f3) t741 t744 t745 _ ?side1 ?side2 A14.out).mono ?_); (case side1 => refine (Kd.R_reads' (e := 3) (base := w.heap.size) (ok := fun k_ => some k_ ≠ (u8 : Value).ownBlock) (n := x7_1.length) (c := co19) ?_).2.2; exact (by (with_reducible repeat (first | apply Kd.R_alloc | apply Kd.R_drewN | apply Kd.R_drew)); exact (Kd.R_mono (Kd.R_far (p := ⟨gb740, 3, none⟩) (Kd.R_far (p := ⟨gb740, 2, none⟩) (Kd.R_far (p := ⟨gb740, 1, none⟩) (Kd.R_far (p := ⟨gb740, 0, none⟩) (Kd.R_types HO_7.out BK740.out (by decide)) (fun _ hk => hk.2) (.int .i64 ((rd_T34 l1 x25_1).f0))) (fun _ hk => hk.2) (.int .i64 ((rd_T34 l1 x25_1).f1))) (fun _ hk => hk.2) (.int .i64 ((rd_T34 l1 x25_1).f2))) (fun _ hk => hk.2) (.int .i64 ((rd_T34 l1 x25_1).f3))) (fun _ h_ => h_.1)))); (case side2 => exact (Kd.R_reads' HO_7.out).2.1); rintro e w20 ⟨v742, rfl, ho0, hb⟩; refine ⟨_, rfl, ?_⟩; have n0_ := Aside0.mk (Kd.R_elder' (by (with_reducible repeat (first | apply Kd.R_alloc | apply Kd.R_drewN | apply Kd.R_drew)); exact (Kd.R_mono (Kd.R_far (p := ⟨gb740, 3, none⟩) (Kd.R_far (p := ⟨gb740, 2, none⟩) (Kd.R_far (p := ⟨gb740, 1, none⟩) (Kd.R_far (p := ⟨gb740, 0, none⟩) (Kd.R_types HO_7.out BK740.out (by decide)) (fun _ hk => hk.2) (.int .i64 ((rd_T34 l1 x25_1).f0))) (fun _ hk => hk.2) (.int .i64 ((rd_T34 l1 x25_1).f1))) (fun _ hk => hk.2) (.int .i64 ((rd_T34 l1 x25_1).f2))) (fun _ hk => hk.2) (.int .i64 ((rd_T34 l1 x25_1).f3))) (fun _ h_ => h_.1))) (Kd.R_base ho0) hb); have n1_ := Aside0.mk (Kd.R_elder' (by (with_reducible repeat (first | apply Kd.R_alloc | apply Kd.R_drewN | apply Kd.R_drew)); exact (Kd.R_mono (Kd.R_far (p := ⟨gb740, 3, none⟩) (Kd.R_far (p := ⟨gb740, 2, none⟩) (Kd.R_far (p := ⟨gb740, 1, none⟩) (Kd.R_far (p := ⟨gb740, 0, none⟩) (Kd.R_types HO_8.out BK740.out (by decide)) (fun _ hk => hk.2) (.int .i64 ((rd_T34 l1 x25_1).f0))) (fun _ hk => hk.2) (.int .i64 ((rd_T34 l1 x25_1).f1))) (fun _ hk => hk.2) (.int .i64 ((rd_T34 l1 x25_1).f2))) (fun _ hk => hk.2) (.int .i64 ((rd_T34 l1 x25_1).f3))) (fun _ h_ => h_.1))) (Kd.R_base ho0) hb); have n2_ := Aside0.mk (Kd.R_lower (Kd.R_new' (Kd.R_new' ho0 (Kd.R_lt (by (with_reducible repeat (first | apply Kd.R_alloc | apply Kd.R_drewN | apply Kd.R_drew)); exact (Kd.R_mono (Kd.R_far (p := ⟨gb740, 3, none⟩) (Kd.R_far (p := ⟨gb740, 2, none⟩) (Kd.R_far (p := ⟨gb740, 1, none⟩) (Kd.R_far (p := ⟨gb740, 0, none⟩) (Kd.R_types HO_7.out BK740.out (by decide)) (fun _ hk => hk.2) (.int .i64 ((rd_T34 l1 x25_1).f0))) (fun _ hk => hk.2) (.int .i64 ((rd_T34 l1 x25_1).f1))) (fun _ hk => hk.2) (.int .i64 ((rd_T34 l1 x25_1).f2))) (fun _ hk => hk.2) (.int .i64 ((rd_T34 l1 x25_1).f3))) (fun _ h_ => h_.1))))) (Kd.R_lt (by (with_reducible repeat (first | apply Kd.R_alloc | apply Kd.R_drewN | apply Kd.R_drew)); exact (Kd.R_mono (Kd.R_far (p := ⟨gb740, 3, none⟩) (Kd.R_far (p := ⟨gb740, 2, none⟩) (Kd.R_far (p := ⟨gb740, 1, none⟩) (Kd.R_far (p := ⟨gb740, 0, none⟩) (Kd.R_types HO_8.out BK740.out (by decide)) (fun _ hk => hk.2) (.int .i64 ((rd_T34 l1 x25_1).f0))) (fun _ hk => hk.2) (.int .i64 ((rd_T34 l1 x25_1).f1))) (fun _ hk => hk.2) (.int .i64 ((rd_T34 l1 x25_1).f2))) (fun _ hk => hk.2) (.int .i64 ((rd_T34 l1 x25_1).f3))) (fun _ h_ => h_.1))))) (below_size (by repeat (first | (with_reducible first | exact HB.out | apply below_alloc | apply pw_below_drewN | apply below_drew1 | refine below_set ?_ GE740.out) | exact HB.out)))); have n3_ := Aside0.mk (blk_below (g := gb740) (o := .cells #[.int .i64 ((rd_T34 l1 x25_1).f0), .int .i64 ((rd_T34 l1 x25_1).f1), .int .i64 ((rd_T34 l1 x25_1).f2), .int .i64 ((rd_T34 l1 x25_1).f3)] 34 (0, 0)) (by (with_reducible repeat (first | refine blk_drewN ?_ _ | refine blk_drew ?_ | refine blk_alloc ?_ _)); refine blk_put (cs := #[.int .i64 ((rd_T34 l1 x25_1).f0), .int .i64 ((rd_T34 l1 x25_1).f1), .int .i64 ((rd_T34 l1 x25_1).f2), .int .i64 0]) ?_ 3 _ rfl; (with_reducible repeat (first | refine blk_drewN ?_ _ | refine blk_drew ?_ | refine blk_alloc ?_ _)); refine blk_put (cs := #[.int .i64 ((rd_T34 l1 x25_1).f0), .int .i64 ((rd_T34 l1 x25_1).f1), .int .i64 0, .int .i64 0]) ?_ 2 _ rfl; (with_reducible repeat (first | refine blk_drewN ?_ _ | refine blk_drew ?_ | refine blk_alloc ?_ _)); refine blk_put (cs := #[.int .i64 ((rd_T34 l1 x25_1).f0), .int .i64 0, .int .i64 0, .int .i64 0]) ?_ 1 _ rfl; (with_reducible repeat (first | refine blk_drewN ?_ _ | refine blk_drew ?_ | refine blk_alloc ?_ _)); refine blk_put (cs := #[.int .i64 0, .int .i64 0, .int .i64 0, .int .i64 0]) ?_ 0 _ rfl; (with_reducible repeat (first | refine blk_drewN ?_ _ | refine blk_drew ?_ | refine blk_alloc ?_ _)); exact BK740.out) hb); have n4_ := Aside0.mk (below_step (by repeat (first | (with_reducible first | exact HB.out | apply below_alloc | apply pw_below_drewN | apply below_drew1 | refine below_set ?_ GE740.out) | exact HB.out)) hb); clear HO_7; clear HO_8; clear BK740; clear HB; have HO_7 := n0_; have HO_8 := n1_; have HO743 := n2_; have BK740 := n3_; have HB := n4_; clear n0_ n1_ n2_ n3_ n4_; (try clear hb); (try clear hb2); (try clear hk); (try clear hi); (try clear ho0)) | ((with_reducible refine gate_builtin (b := .append) (xs := #[.tmp 37, .tmp 39]) rfl ?_); at_builtin; refine Kd.R_append (Kd.int .i64) (w0 := w) w.heap.size rfl (.tmp 37) (.tmp 39) 22 3 (.int .i64 0) 8 rfl Try.underlying22 info3 rfl (by decide) (by omega) u8 x8_1 t744 [.int .i64 t744] (fun k_ => some k_ ≠ (.slice Ao19 x7_1.length co19 : Value).ownBlock ∧ some k_ ≠ (v742 : Value).ownBlock) (fun _ => False) rfl rfl ?aP (fun _ hk => hk.elim) ?aF ?aO ?aB ?aS ?aL ?_; (case aP => exact rfl); (case aB => exact (by repeat (first | (with_reducible first | exact HB.out | apply below_alloc | apply pw_below_drewN | apply below_drew1 | refine below_set ?_ GE740.out) | exact HB.out))); (case aF => exact (fun k_ hk => ⟨Kd.fresh' (Kd.R_lt (by (with_reducible repeat (first | apply Kd.R_alloc | apply Kd.R_drewN | apply Kd.R_drew)); exact HO_7.out)) k_ hk, Kd.fresh' (Kd.R_lt (by (with_reducible repeat (first | apply Kd.R_alloc | apply Kd.R_drewN | apply Kd.R_drew)); exact HO743.out)) k_ hk⟩)); (case aO => exact (by (with_reducible repeat (first | apply Kd.R_alloc | apply Kd.R_drewN | apply Kd.R_drew)); exact HO_8.out)); (case aS => exact (below_size (by repeat (first | (with_reducible first | exact HB.out | apply below_alloc | apply pw_below_drewN | apply below_drew1 | refine below_set ?_ GE740.out) | exact HB.out)))); (case aL => have := LMc15.out; omega); intro v747 w21 ho hb hg hat; rw [← Ny746.out] at ho; have n0_ := Aside0.mk (Kd.R_after (ok := (fun k_ => some k_ ≠ (v742 : Value).ownBlock)) (by (with_reducible repeat (first | apply Kd.R_alloc | apply Kd.R_drewN | apply Kd.R_drew)); exact Kd.R_mono HO_7.out (fun _ hk => ⟨hk.2, hk.1⟩)) hg hat); have n1_ := Aside0.mk (blk_grown (g := gb740) (o := .cells #[.int .i64 ((rd_T34 l1 x25_1).f0), .int .i64 ((rd_T34 l1 x25_1).f1), .int .i64 ((rd_T34 l1 x25_1).f2), .int .i64 ((rd_T34 l1 x25_1).f3)] 34 (0, 0)) (by (with_reducible repeat (first | refine blk_drewN ?_ _ | refine blk_drew ?_ | refine blk_alloc ?_ _)); exact BK740.out) hg (Kd.R_ne HO_8.out BK740.out (by decide))); have n2_ := Aside0.mk (Kd.R_after (ok := (fun k_ => some k_ ≠ (.slice Ao19 x7_1.length co19 : Value).ownBlock)) (by (with_reducible repeat (first | apply Kd.R_alloc | apply Kd.R_drewN | apply Kd.R_drew)); exact Kd.R_mono HO743.out (fun _ hk => ⟨hk.1.2, hk.2⟩)) hg hat); have n3_ := Aside0.mk (hb); have n4_ := Aside0.mk (ho); clear HO_7; clear BK740; clear HO743; clear HB; clear HO_8; have HO_7 := n0_; have BK740 := n1_; have HO743 := n2_; have HB := n3_; have HO748 := n4_; clear n0_ n1_ n2_ n3_ n4_; clear ho hb hg hat))
                  go_roundg k1
                  case measure => have := HK1.out; omega
                  case rel => exact ⟨(t741), (y746), (t745), (wrap64 (x25_1 + 1)), (by first | rfl | (simp; done) | (simp [*]; done)), (by first | rfl | (simp; done) | (simp [*]; done)), H', ⟨by have := HK1.out; omega⟩, ⟨by (with_reducible repeat (first | apply Kd.R_alloc | apply Kd.R_drewN | apply Kd.R_drew)); exact Kd.R_mono HO743.out (fun _ hk => hk.2)⟩, ⟨by (with_reducible repeat (first | apply Kd.R_alloc | apply Kd.R_drewN | apply Kd.R_drew)); exact Kd.R_mono HO748.out (fun _ hk => hk.2)⟩, ⟨by repeat (first | (with_reducible first | exact HB.out | apply below_alloc | apply pw_below_drewN | apply below_drew1 | refine below_set ?_ GE740.out) | exact HB.out)⟩⟩
                · replace c16 := Bool.eq_false_iff.mpr c16
                  subst c16
                  have H1 : (impl_Words.l0 k1 t741 y746 false l1 (l1.length : Int) (wrap64 (x25_1 + 1))) = some (r1, r2, r3) := by rw [if_neg (show ¬ (false = true) by decide)] at H; exact H
                  clear H
                  have H := H1
                  clear H1
                  have H' := Aside0.mk H
                  clear H
                  have p739 : 0 ≤ (x25_1 : Int) := of_decide_eq_true (by first | (with_reducible assumption) | assumption)
                  have q739 : x25_1 < (l1.length : Int) := of_decide_eq_true (by first | (with_reducible assumption) | assumption)
                  obtain ⟨ad739, e739, hx739_0, hx739_1, hx739_2, hx739_3⟩ := at_T34 HR1.out x25_1 p739 q739
                  cases e739
                  replace hx739_0 := (HB.out.cell (World.block_lt_of_cell? w _ hx739_0)).trans hx739_0
                  replace hx739_1 := (HB.out.cell (World.block_lt_of_cell? w _ hx739_1)).trans hx739_1
                  replace hx739_2 := (HB.out.cell (World.block_lt_of_cell? w _ hx739_2)).trans hx739_2
                  replace hx739_3 := (HB.out.cell (World.block_lt_of_cell? w _ hx739_3)).trans hx739_3
                  replace p739 := eq_true p739
                  replace q739 := eq_true q739
                  go_wp2_with (first | ((with_reducible refine gate_dst (N := 11) rfl ?_); refine box_event ?hg (N := 11) ?hd (cs := #[.int .i64 0, .int .i64 0, .int .i64 0, .int .i64 0]) (t := 34) ?hr ?_; (case hd => rfl); (case hg => rfl); (case hr => first | (go_simp; done) | (go_simp; rfl)); intro gb740 hg w22 hbox hb; have n0_ := Aside0.mk (Kd.R_below (by (with_reducible repeat (first | apply Kd.R_alloc | apply Kd.R_drewN | apply Kd.R_drew)); exact HO_7.out) hb); have n1_ := Aside0.mk (Kd.R_below (by (with_reducible repeat (first | apply Kd.R_alloc | apply Kd.R_drewN | apply Kd.R_drew)); exact HO_8.out) hb); have n2_ := Aside0.mk (below_step (by repeat (first | (with_reducible first | exact HB.out | apply below_alloc | apply pw_below_drewN | apply below_drew1) | exact HB.out)) hb); have n3_ := Aside0.mk (hbox); have n4_ := Aside0.mk ((by rw [hg]; exact (below_size (by repeat (first | (with_reducible first | exact HB.out | apply below_alloc | apply pw_below_drewN | apply below_drew1) | exact HB.out))) : w.heap.size ≤ gb740)); have n5_ := Aside0.mk ((by rw [hg]; exact (below_size (by repeat (first | (with_reducible first | exact HB.out | apply below_alloc | apply pw_below_drewN | apply below_drew1) | exact HB.out))) : w.heap.size ≤ gb740)); clear HO_7; clear HO_8; clear HB; have HO_7 := n0_; have HO_8 := n1_; have HB := n2_; have BK740 := n3_; have GW740 := n4_; have GE740 := n5_; clear n0_ n1_ n2_ n3_ n4_ n5_; clear hb hbox hg; have hcz23_0 : w22.cell? ⟨gb740, 0, none⟩ = some (.int .i64 0) := (blk_cell BK740.out 0).trans rfl; have hcz23_1 : w22.cell? ⟨gb740, 1, none⟩ = some (.int .i64 0) := (blk_cell BK740.out 1).trans rfl; have hcz23_2 : w22.cell? ⟨gb740, 2, none⟩ = some (.int .i64 0) := (blk_cell BK740.out 2).trans rfl; have hcz23_3 : w22.cell? ⟨gb740, 3, none⟩ = some (.int .i64 0) := (blk_cell BK740.out 3).trans rfl; have hfz23_0 := blk_frozen BK740.out 0; have hfz23_1 := blk_frozen BK740.out 1; have hfz23_2 := blk_frozen BK740.out 2; have hfz23_3 := blk_frozen BK740.out 3; obtain ⟨Ao24, co24, eo24⟩ := Kd.R_slice HO_7.out; subst eo24) | ((with_reducible refine gate_callee (f := 21) rfl ?_); refine goesL_ (some 32) rfl rfl Try.func21 (by kernel_rfl) rfl #[.slice Ao24 x7_1.length co24, .agg #[.int .i64 ((rd_T34 l1 x25_1).f0), .int .i64 ((rd_T34 l1 x25_1).f1), .int .i64 ((rd_T34 l1 x25_1).f2), .int .i64 ((rd_T34 l1 x25_1).f3)]] rfl (by (try simp only [List.map_toArray, List.map_cons, List.map_nil]); first | done | rfl | (simp only [List.length_drop, List.length_take]; rfl)) ?_; (with_reducible refine (impl_Word.calls k1 _ _ x7_1 ((rd_T34 l1 x25_1).f0) ((rd_T34 l1 x25_1).f1) ((rd_T34 l1 x25_1).f2) ((rd_T34 l1 x25_1).f3) t741 t744 t745 _ ?side1 ?side2 A14.out).mono ?_); (case side1 => refine (Kd.R_reads' (e := 3) (base := w.heap.size) (ok := fun k_ => some k_ ≠ (u8 : Value).ownBlock) (n := x7_1.length) (c := co24) ?_).2.2; exact (by (with_reducible repeat (first | apply Kd.R_alloc | apply Kd.R_drewN | apply Kd.R_drew)); exact (Kd.R_mono (Kd.R_far (p := ⟨gb740, 3, none⟩) (Kd.R_far (p := ⟨gb740, 2, none⟩) (Kd.R_far (p := ⟨gb740, 1, none⟩) (Kd.R_far (p := ⟨gb740, 0, none⟩) (Kd.R_types HO_7.out BK740.out (by decide)) (fun _ hk => hk.2) (.int .i64 ((rd_T34 l1 x25_1).f0))) (fun _ hk => hk.2) (.int .i64 ((rd_T34 l1 x25_1).f1))) (fun _ hk => hk.2) (.int .i64 ((rd_T34 l1 x25_1).f2))) (fun _ hk => hk.2) (.int .i64 ((rd_T34 l1 x25_1).f3))) (fun _ h_ => h_.1)))); (case side2 => exact (Kd.R_reads' HO_7.out).2.1); rintro e w25 ⟨v742, rfl, ho0, hb⟩; refine ⟨_, rfl, ?_⟩; have n0_ := Aside0.mk (Kd.R_elder' (by (with_reducible repeat (first | apply Kd.R_alloc | apply Kd.R_drewN | apply Kd.R_drew)); exact (Kd.R_mono (Kd.R_far (p := ⟨gb740, 3, none⟩) (Kd.R_far (p := ⟨gb740, 2, none⟩) (Kd.R_far (p := ⟨gb740, 1, none⟩) (Kd.R_far (p := ⟨gb740, 0, none⟩) (Kd.R_types HO_7.out BK740.out (by decide)) (fun _ hk => hk.2) (.int .i64 ((rd_T34 l1 x25_1).f0))) (fun _ hk => hk.2) (.int .i64 ((rd_T34 l1 x25_1).f1))) (fun _ hk => hk.2) (.int .i64 ((rd_T34 l1 x25_1).f2))) (fun _ hk => hk.2) (.int .i64 ((rd_T34 l1 x25_1).f3))) (fun _ h_ => h_.1))) (Kd.R_base ho0) hb); have n1_ := Aside0.mk (Kd.R_elder' (by (with_reducible repeat (first | apply Kd.R_alloc | apply Kd.R_drewN | apply Kd.R_drew)); exact (Kd.R_mono (Kd.R_far (p := ⟨gb740, 3, none⟩) (Kd.R_far (p := ⟨gb740, 2, none⟩) (Kd.R_far (p := ⟨gb740, 1, none⟩) (Kd.R_far (p := ⟨gb740, 0, none⟩) (Kd.R_types HO_8.out BK740.out (by decide)) (fun _ hk => hk.2) (.int .i64 ((rd_T34 l1 x25_1).f0))) (fun _ hk => hk.2) (.int .i64 ((rd_T34 l1 x25_1).f1))) (fun _ hk => hk.2) (.int .i64 ((rd_T34 l1 x25_1).f2))) (fun _ hk => hk.2) (.int .i64 ((rd_T34 l1 x25_1).f3))) (fun _ h_ => h_.1))) (Kd.R_base ho0) hb); have n2_ := Aside0.mk (Kd.R_lower (Kd.R_new' (Kd.R_new' ho0 (Kd.R_lt (by (with_reducible repeat (first | apply Kd.R_alloc | apply Kd.R_drewN | apply Kd.R_drew)); exact (Kd.R_mono (Kd.R_far (p := ⟨gb740, 3, none⟩) (Kd.R_far (p := ⟨gb740, 2, none⟩) (Kd.R_far (p := ⟨gb740, 1, none⟩) (Kd.R_far (p := ⟨gb740, 0, none⟩) (Kd.R_types HO_7.out BK740.out (by decide)) (fun _ hk => hk.2) (.int .i64 ((rd_T34 l1 x25_1).f0))) (fun _ hk => hk.2) (.int .i64 ((rd_T34 l1 x25_1).f1))) (fun _ hk => hk.2) (.int .i64 ((rd_T34 l1 x25_1).f2))) (fun _ hk => hk.2) (.int .i64 ((rd_T34 l1 x25_1).f3))) (fun _ h_ => h_.1))))) (Kd.R_lt (by (with_reducible repeat (first | apply Kd.R_alloc | apply Kd.R_drewN | apply Kd.R_drew)); exact (Kd.R_mono (Kd.R_far (p := ⟨gb740, 3, none⟩) (Kd.R_far (p := ⟨gb740, 2, none⟩) (Kd.R_far (p := ⟨gb740, 1, none⟩) (Kd.R_far (p := ⟨gb740, 0, none⟩) (Kd.R_types HO_8.out BK740.out (by decide)) (fun _ hk => hk.2) (.int .i64 ((rd_T34 l1 x25_1).f0))) (fun _ hk => hk.2) (.int .i64 ((rd_T34 l1 x25_1).f1))) (fun _ hk => hk.2) (.int .i64 ((rd_T34 l1 x25_1).f2))) (fun _ hk => hk.2) (.int .i64 ((rd_T34 l1 x25_1).f3))) (fun _ h_ => h_.1))))) (below_size (by repeat (first | (with_reducible first | exact HB.out | apply below_alloc | apply pw_below_drewN | apply below_drew1 | refine below_set ?_ GE740.out) | exact HB.out)))); have n3_ := Aside0.mk (blk_below (g := gb740) (o := .cells #[.int .i64 ((rd_T34 l1 x25_1).f0), .int .i64 ((rd_T34 l1 x25_1).f1), .int .i64 ((rd_T34 l1 x25_1).f2), .int .i64 ((rd_T34 l1 x25_1).f3)] 34 (0, 0)) (by (with_reducible repeat (first | refine blk_drewN ?_ _ | refine blk_drew ?_ | refine blk_alloc ?_ _)); refine blk_put (cs := #[.int .i64 ((rd_T34 l1 x25_1).f0), .int .i64 ((rd_T34 l1 x25_1).f1), .int .i64 ((rd_T34 l1 x25_1).f2), .int .i64 0]) ?_ 3 _ rfl; (with_reducible repeat (first | refine blk_drewN ?_ _ | refine blk_drew ?_ | refine blk_alloc ?_ _)); refine blk_put (cs := #[.int .i64 ((rd_T34 l1 x25_1).f0), .int .i64 ((rd_T34 l1 x25_1).f1), .int .i64 0, .int .i64 0]) ?_ 2 _ rfl; (with_reducible repeat (first | refine blk_drewN ?_ _ | refine blk_drew ?_ | refine blk_alloc ?_ _)); refine blk_put (cs := #[.int .i64 ((rd_T34 l1 x25_1).f0), .int .i64 0, .int .i64 0, .int .i64 0]) ?_ 1 _ rfl; (with_reducible repeat (first | refine blk_drewN ?_ _ | refine blk_drew ?_ | refine blk_alloc ?_ _)); refine blk_put (cs := #[.int .i64 0, .int .i64 0, .int .i64 0, .int .i64 0]) ?_ 0 _ rfl; (with_reducible repeat (first | refine blk_drewN ?_ _ | refine blk_drew ?_ | refine blk_alloc ?_ _)); exact BK740.out) hb); have n4_ := Aside0.mk (below_step (by repeat (first | (with_reducible first | exact HB.out | apply below_alloc | apply pw_below_drewN | apply below_drew1 | refine below_set ?_ GE740.out) | exact HB.out)) hb); clear HO_7; clear HO_8; clear BK740; clear HB; have HO_7 := n0_; have HO_8 := n1_; have HO743 := n2_; have BK740 := n3_; have HB := n4_; clear n0_ n1_ n2_ n3_ n4_; (try clear hb); (try clear hb2); (try clear hk); (try clear hi); (try clear ho0)) | ((with_reducible refine gate_builtin (b := .append) (xs := #[.tmp 37, .tmp 39]) rfl ?_); at_builtin; refine Kd.R_append (Kd.int .i64) (w0 := w) w.heap.size rfl (.tmp 37) (.tmp 39) 22 3 (.int .i64 0) 8 rfl Try.underlying22 info3 rfl (by decide) (by omega) u8 x8_1 t744 [.int .i64 t744] (fun k_ => some k_ ≠ (.slice Ao24 x7_1.length co24 : Value).ownBlock ∧ some k_ ≠ (v742 : Value).ownBlock) (fun _ => False) rfl rfl ?aP (fun _ hk => hk.elim) ?aF ?aO ?aB ?aS ?aL ?_; (case aP => exact rfl); (case aB => exact (by repeat (first | (with_reducible first | exact HB.out | apply below_alloc | apply pw_below_drewN | apply below_drew1 | refine below_set ?_ GE740.out) | exact HB.out))); (case aF => exact (fun k_ hk => ⟨Kd.fresh' (Kd.R_lt (by (with_reducible repeat (first | apply Kd.R_alloc | apply Kd.R_drewN | apply Kd.R_drew)); exact HO_7.out)) k_ hk, Kd.fresh' (Kd.R_lt (by (with_reducible repeat (first | apply Kd.R_alloc | apply Kd.R_drewN | apply Kd.R_drew)); exact HO743.out)) k_ hk⟩)); (case aO => exact (by (with_reducible repeat (first | apply Kd.R_alloc | apply Kd.R_drewN | apply Kd.R_drew)); exact HO_8.out)); (case aS => exact (below_size (by repeat (first | (with_reducible first | exact HB.out | apply below_alloc | apply pw_below_drewN | apply below_drew1 | refine below_set ?_ GE740.out) | exact HB.out)))); (case aL => have := LMc15.out; omega); intro v747 w26 ho hb hg hat; rw [← Ny746.out] at ho; have n0_ := Aside0.mk (Kd.R_after (ok := (fun k_ => some k_ ≠ (v742 : Value).ownBlock)) (by (with_reducible repeat (first | apply Kd.R_alloc | apply Kd.R_drewN | apply Kd.R_drew)); exact Kd.R_mono HO_7.out (fun _ hk => ⟨hk.2, hk.1⟩)) hg hat); have n1_ := Aside0.mk (blk_grown (g := gb740) (o := .cells #[.int .i64 ((rd_T34 l1 x25_1).f0), .int .i64 ((rd_T34 l1 x25_1).f1), .int .i64 ((rd_T34 l1 x25_1).f2), .int .i64 ((rd_T34 l1 x25_1).f3)] 34 (0, 0)) (by (with_reducible repeat (first | refine blk_drewN ?_ _ | refine blk_drew ?_ | refine blk_alloc ?_ _)); exact BK740.out) hg (Kd.R_ne HO_8.out BK740.out (by decide))); have n2_ := Aside0.mk (Kd.R_after (ok := (fun k_ => some k_ ≠ (.slice Ao24 x7_1.length co24 : Value).ownBlock)) (by (with_reducible repeat (first | apply Kd.R_alloc | apply Kd.R_drewN | apply Kd.R_drew)); exact Kd.R_mono HO743.out (fun _ hk => ⟨hk.1.2, hk.2⟩)) hg hat); have n3_ := Aside0.mk (hb); have n4_ := Aside0.mk (ho); clear HO_7; clear BK740; clear HO743; clear HB; clear HO_8; have HO_7 := n0_; have BK740 := n1_; have HO743 := n2_; have HB := n3_; have HO748 := n4_; clear n0_ n1_ n2_ n3_ n4_; clear ho hb hg hat))
                  go_roundg k1
                  case measure => have := HK1.out; omega
                  case rel => exact ⟨(t741), (y746), (false), (wrap64 (x25_1 + 1)), (by first | rfl | (simp; done) | (simp [*]; done)), (by first | rfl | (simp; done) | (simp [*]; done)), H', ⟨by have := HK1.out; omega⟩, ⟨by (with_reducible repeat (first | apply Kd.R_alloc | apply Kd.R_drewN | apply Kd.R_drew)); exact Kd.R_mono HO743.out (fun _ hk => hk.2)⟩, ⟨by (with_reducible repeat (first | apply Kd.R_alloc | apply Kd.R_drewN | apply Kd.R_drew)); exact Kd.R_mono HO748.out (fun _ hk => hk.2)⟩, ⟨by repeat (first | (with_reducible first | exact HB.out | apply below_alloc | apply pw_below_drewN | apply below_drew1 | refine below_set ?_ GE740.out) | exact HB.out)⟩⟩
              · rw [if_neg c15] at H
                exact absurd H (by simp)
            · rw [if_neg c13] at H
              exact absurd H (by simp)
          · rw [if_neg c12] at H
            exact absurd H (by simp)
        · rw [if_neg c11] at H
          have c11b0 : decide (x25_1 < (l1.length : Int)) = false := decide_eq_false c11
          clear c11
          simp only [Option.some.injEq, Prod.mk.injEq] at H
          obtain ⟨rfl, rfl, rfl⟩ := H
          go_wp2
          go_ret3
          exact ⟨_, _, by first | rfl | (simp [errW_none, errW_some] <;> rfl) | (simp [*, errW_none, errW_some] <;> rfl), by (with_reducible repeat (first | apply Kd.R_alloc | apply Kd.R_drewN | apply Kd.R_drew)); exact HO_7.out, by (with_reducible repeat (first | apply Kd.R_alloc | apply Kd.R_drewN | apply Kd.R_drew)); exact HO_8.out, by repeat (first | (with_reducible first | exact HB.out | apply below_alloc | apply pw_below_drewN | apply below_drew1) | exact HB.out)⟩


end Go.Proofs.Ytbhlmgljflggeaa.M
