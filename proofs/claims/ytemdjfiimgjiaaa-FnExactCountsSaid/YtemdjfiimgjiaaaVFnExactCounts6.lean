/- What the Go functions that the law FnExactCounts reaches compute, as plain Lean functions, and that their calls come to just that. Conditions: those that each theorem states. Written by the session's program. -/
import Derived.Test.YtemdjfiimgjiaaaVFnExactCountsB
import Derived.Test.YtemdjfiimgjiaaaVFnExactCounts5
namespace Go.Proofs.Ytemdjfiimgjiaaa.M
open Go.Proofs.Ytemdjfiimgjiaaa.Sq
open Go.RowKit Go.Proofs.YtemdjfiimgjiaaaW.PrintWords Go.Proofs.YtemdjfiimgjiaaaW.PrintLast Go.Proofs.YtemdjfiimgjiaaaW.PrintMore
attribute [local go_sem] max2_int min2_int max_two min_two max_three min_three max_four min_four   -- for this text's walks alone
set_option linter.unusedVariables false
set_option linter.unusedSimpArgs false

def laws_eqIntA4.l0 : Nat → Int → Int → Int → Int → Int → Int → Int → Int → Int → Option (Bool)
 | 0, _, _, _, _, _, _, _, _, _ => none
 | k + 1, x5, x1152000, x1152001, x1152002, x1152003, x1153000, x1153001, x1153002, x1153003 => if x5 < 4 then (if x5 = 0 then (if x1152000 = x1153000 then (laws_eqIntA4.l0 k (wrap64 (x5 + 1)) x1152000 x1152001 x1152002 x1152003 x1153000 x1153001 x1153002 x1153003) else (some false)) else (if x5 = 1 then (if x1152001 = x1153001 then (laws_eqIntA4.l0 k (wrap64 (x5 + 1)) x1152000 x1152001 x1152002 x1152003 x1153000 x1153001 x1153002 x1153003) else (some false)) else (if x5 = 2 then (if x1152002 = x1153002 then (laws_eqIntA4.l0 k (wrap64 (x5 + 1)) x1152000 x1152001 x1152002 x1152003 x1153000 x1153001 x1153002 x1153003) else (some false)) else (if x5 = 3 then (if x1152003 = x1153003 then (laws_eqIntA4.l0 k (wrap64 (x5 + 1)) x1152000 x1152001 x1152002 x1152003 x1153000 x1153001 x1153002 x1153003) else (some false)) else (none))))) else (some true)
def laws_eqIntA4.f (k : Nat) (a0_0 : Int) (a0_1 : Int) (a0_2 : Int) (a0_3 : Int) (a1_0 : Int) (a1_1 : Int) (a1_2 : Int) (a1_3 : Int) : Option (Bool) := laws_eqIntA4.l0 k 0 a0_0 a0_1 a0_2 a0_3 a1_0 a1_1 a1_2 a1_3
set_option maxHeartbeats 8000000 in
set_option maxRecDepth 100000 in
theorem laws_eqIntA4.calls (k : Nat) (a0_0 : Int) (a0_1 : Int) (a0_2 : Int) (a0_3 : Int) (a1_0 : Int) (a1_1 : Int) (a1_2 : Int) (a1_3 : Int) (r : Bool) (w : World) (h : laws_eqIntA4.f k a0_0 a0_1 a0_2 a0_3 a1_0 a1_1 a1_2 a1_3 = some r) :
  Calls Try.prog 35 #[.agg #[.int .i64 a0_0, .int .i64 a0_1, .int .i64 a0_2, .int .i64 a0_3], .agg #[.int .i64 a1_0, .int .i64 a1_1, .int .i64 a1_2, .int .i64 a1_3]] w fun e w' => e = .returned (.bool r) ∧ Below w.heap.size w w' := by
 have hu32 := Try.underlying32
 have HB := Aside0.mk (Below.refl w.heap.size w)
 have H : (laws_eqIntA4.l0 k 0 a0_0 a0_1 a0_2 a0_3 a1_0 a1_1 a1_2 a1_3) = some r := h
 clear h
 have H' := Aside0.mk H
 clear H
 go_enter Try.func35, Try.ntmps35
 go_wp2_with (first | ((with_reducible refine gate_dst (N := 2) rfl ?_); refine box_event ?hg (N := 2) ?hd (cs := #[.int .i64 a0_0, .int .i64 a0_1, .int .i64 a0_2, .int .i64 a0_3]) (t := 32) ?hr ?_; (case hd => rfl); (case hg => rfl); (case hr => first | (go_simp; done) | (go_simp; rfl)); intro gb1151 hg w3 hbox hb; have n0_ := Aside0.mk (below_step (by repeat (first | (with_reducible first | exact HB.out | apply below_alloc | apply pw_below_drewN | apply below_drew1) | exact HB.out)) hb); have n1_ := Aside0.mk (hbox); have n2_ := Aside0.mk ((by rw [hg]; exact (below_size (by repeat (first | (with_reducible first | exact HB.out | apply below_alloc | apply pw_below_drewN | apply below_drew1) | exact HB.out))) : w.heap.size ≤ gb1151)); have n3_ := n2_; replace HB := n0_; have BK1151 := n1_; have GW1151 := n2_; have GE1151 := n3_; clear n0_ n1_ n2_ n3_; clear hb hbox hg) | ((with_reducible refine gate_dst (N := 3) rfl ?_); refine box_event ?hg (N := 3) ?hd (cs := #[.int .i64 a1_0, .int .i64 a1_1, .int .i64 a1_2, .int .i64 a1_3]) (t := 32) ?hr ?_; (case hd => rfl); (case hg => rfl); (case hr => first | (go_simp; done) | (go_simp; rfl)); intro gb1152 hg w4 hbox hb; have n0_ := Aside0.mk (blk_below (g := gb1151) (o := .cells #[.int .i64 a0_0, .int .i64 a0_1, .int .i64 a0_2, .int .i64 a0_3] 32 (0, 0)) BK1151.out hb); have n1_ := Aside0.mk (below_step (by repeat (first | (with_reducible first | exact HB.out | apply below_alloc | apply pw_below_drewN | apply below_drew1 | refine below_set ?_ GE1151.out) | exact HB.out)) hb); have n2_ := Aside0.mk (hbox); have n3_ := Aside0.mk ((by rw [hg]; exact (below_size (by repeat (first | (with_reducible first | exact HB.out | apply below_alloc | apply pw_below_drewN | apply below_drew1 | refine below_set ?_ GE1151.out) | exact HB.out))) : w.heap.size ≤ gb1152)); have n4_ := n3_; have n5_ := Aside0.mk ((by rw [hg]; exact Nat.ne_of_lt (blk_lt (g := gb1151) (o := .cells #[.int .i64 a0_0, .int .i64 a0_1, .int .i64 a0_2, .int .i64 a0_3] 32 (0, 0)) BK1151.out) : gb1151 ≠ gb1152)); have n6_ := Aside0.mk ((by rw [hg]; exact Nat.ne_of_gt (blk_lt (g := gb1151) (o := .cells #[.int .i64 a0_0, .int .i64 a0_1, .int .i64 a0_2, .int .i64 a0_3] 32 (0, 0)) BK1151.out) : gb1152 ≠ gb1151)); replace BK1151 := n0_; replace HB := n1_; have BK1152 := n2_; have GW1152 := n3_; have GE1152 := n4_; have NB1151_1152 := n5_; have NB1152_1151 := n6_; clear n0_ n1_ n2_ n3_ n4_ n5_ n6_; clear hb hbox hg))
 repeat (go_quiet (first | ((with_reducible refine gate_dst (N := 2) rfl ?_); refine box_event ?hg (N := 2) ?hd (cs := #[.int .i64 a0_0, .int .i64 a0_1, .int .i64 a0_2, .int .i64 a0_3]) (t := 32) ?hr ?_; (case hd => rfl); (case hg => rfl); (case hr => first | (go_simp; done) | (go_simp; rfl)); intro gb1151 hg w3 hbox hb; have n0_ := Aside0.mk (below_step (by repeat (first | (with_reducible first | exact HB.out | apply below_alloc | apply pw_below_drewN | apply below_drew1) | exact HB.out)) hb); have n1_ := Aside0.mk (hbox); have n2_ := Aside0.mk ((by rw [hg]; exact (below_size (by repeat (first | (with_reducible first | exact HB.out | apply below_alloc | apply pw_below_drewN | apply below_drew1) | exact HB.out))) : w.heap.size ≤ gb1151)); have n3_ := n2_; replace HB := n0_; have BK1151 := n1_; have GW1151 := n2_; have GE1151 := n3_; clear n0_ n1_ n2_ n3_; clear hb hbox hg) | ((with_reducible refine gate_dst (N := 3) rfl ?_); refine box_event ?hg (N := 3) ?hd (cs := #[.int .i64 a1_0, .int .i64 a1_1, .int .i64 a1_2, .int .i64 a1_3]) (t := 32) ?hr ?_; (case hd => rfl); (case hg => rfl); (case hr => first | (go_simp; done) | (go_simp; rfl)); intro gb1152 hg w4 hbox hb; have n0_ := Aside0.mk (blk_below (g := gb1151) (o := .cells #[.int .i64 a0_0, .int .i64 a0_1, .int .i64 a0_2, .int .i64 a0_3] 32 (0, 0)) BK1151.out hb); have n1_ := Aside0.mk (below_step (by repeat (first | (with_reducible first | exact HB.out | apply below_alloc | apply pw_below_drewN | apply below_drew1 | refine below_set ?_ GE1151.out) | exact HB.out)) hb); have n2_ := Aside0.mk (hbox); have n3_ := Aside0.mk ((by rw [hg]; exact (below_size (by repeat (first | (with_reducible first | exact HB.out | apply below_alloc | apply pw_below_drewN | apply below_drew1 | refine below_set ?_ GE1151.out) | exact HB.out))) : w.heap.size ≤ gb1152)); have n4_ := n3_; have n5_ := Aside0.mk ((by rw [hg]; exact Nat.ne_of_lt (blk_lt (g := gb1151) (o := .cells #[.int .i64 a0_0, .int .i64 a0_1, .int .i64 a0_2, .int .i64 a0_3] 32 (0, 0)) BK1151.out) : gb1151 ≠ gb1152)); have n6_ := Aside0.mk ((by rw [hg]; exact Nat.ne_of_gt (blk_lt (g := gb1151) (o := .cells #[.int .i64 a0_0, .int .i64 a0_1, .int .i64 a0_2, .int .i64 a0_3] 32 (0, 0)) BK1151.out) : gb1152 ≠ gb1151)); replace BK1151 := n0_; replace HB := n1_; have BK1152 := n2_; have GW1152 := n3_; have GE1152 := n4_; have NB1151_1152 := n5_; have NB1152_1151 := n6_; clear n0_ n1_ n2_ n3_ n4_ n5_ n6_; clear hb hbox hg)); try go_wp2_with (first | ((with_reducible refine gate_dst (N := 2) rfl ?_); refine box_event ?hg (N := 2) ?hd (cs := #[.int .i64 a0_0, .int .i64 a0_1, .int .i64 a0_2, .int .i64 a0_3]) (t := 32) ?hr ?_; (case hd => rfl); (case hg => rfl); (case hr => first | (go_simp; done) | (go_simp; rfl)); intro gb1151 hg w3 hbox hb; have n0_ := Aside0.mk (below_step (by repeat (first | (with_reducible first | exact HB.out | apply below_alloc | apply pw_below_drewN | apply below_drew1) | exact HB.out)) hb); have n1_ := Aside0.mk (hbox); have n2_ := Aside0.mk ((by rw [hg]; exact (below_size (by repeat (first | (with_reducible first | exact HB.out | apply below_alloc | apply pw_below_drewN | apply below_drew1) | exact HB.out))) : w.heap.size ≤ gb1151)); have n3_ := n2_; replace HB := n0_; have BK1151 := n1_; have GW1151 := n2_; have GE1151 := n3_; clear n0_ n1_ n2_ n3_; clear hb hbox hg) | ((with_reducible refine gate_dst (N := 3) rfl ?_); refine box_event ?hg (N := 3) ?hd (cs := #[.int .i64 a1_0, .int .i64 a1_1, .int .i64 a1_2, .int .i64 a1_3]) (t := 32) ?hr ?_; (case hd => rfl); (case hg => rfl); (case hr => first | (go_simp; done) | (go_simp; rfl)); intro gb1152 hg w4 hbox hb; have n0_ := Aside0.mk (blk_below (g := gb1151) (o := .cells #[.int .i64 a0_0, .int .i64 a0_1, .int .i64 a0_2, .int .i64 a0_3] 32 (0, 0)) BK1151.out hb); have n1_ := Aside0.mk (below_step (by repeat (first | (with_reducible first | exact HB.out | apply below_alloc | apply pw_below_drewN | apply below_drew1 | refine below_set ?_ GE1151.out) | exact HB.out)) hb); have n2_ := Aside0.mk (hbox); have n3_ := Aside0.mk ((by rw [hg]; exact (below_size (by repeat (first | (with_reducible first | exact HB.out | apply below_alloc | apply pw_below_drewN | apply below_drew1 | refine below_set ?_ GE1151.out) | exact HB.out))) : w.heap.size ≤ gb1152)); have n4_ := n3_; have n5_ := Aside0.mk ((by rw [hg]; exact Nat.ne_of_lt (blk_lt (g := gb1151) (o := .cells #[.int .i64 a0_0, .int .i64 a0_1, .int .i64 a0_2, .int .i64 a0_3] 32 (0, 0)) BK1151.out) : gb1151 ≠ gb1152)); have n6_ := Aside0.mk ((by rw [hg]; exact Nat.ne_of_gt (blk_lt (g := gb1151) (o := .cells #[.int .i64 a0_0, .int .i64 a0_1, .int .i64 a0_2, .int .i64 a0_3] 32 (0, 0)) BK1151.out) : gb1152 ≠ gb1151)); replace BK1151 := n0_; replace HB := n1_; have BK1152 := n2_; have GW1152 := n3_; have GE1152 := n4_; have NB1151_1152 := n5_; have NB1152_1151 := n6_; clear n0_ n1_ n2_ n3_ n4_ n5_ n6_; clear hb hbox hg)))
 go_loopg [5] k (fun kq v5 w' => ∃ (x5_1 : Int), v5 = .int .i64 x5_1 ∧ Aside0 (laws_eqIntA4.l0 kq x5_1 a0_0 a0_1 a0_2 a0_3 a1_0 a1_1 a1_2 a1_3 = some r) ∧ Aside0 (kq ≤ k) ∧ Aside0 (w'.heap[gb1151]? = some (.cells #[.int .i64 a0_0, .int .i64 a0_1, .int .i64 a0_2, .int .i64 a0_3] 32 (0, 0))) ∧ Aside0 (w'.heap[gb1152]? = some (.cells #[.int .i64 a1_0, .int .i64 a1_1, .int .i64 a1_2, .int .i64 a1_3] 32 (0, 0))) ∧ Aside0 (Below w.heap.size w w'))
 case atStart => exact ⟨(0), (by first | rfl | (simp; done) | (simp [*]; done)), H', ⟨Nat.le_refl _⟩, ⟨BK1151.out⟩, ⟨BK1152.out⟩, ⟨by repeat (first | (with_reducible first | exact HB.out | apply below_alloc | apply pw_below_drewN | apply below_drew1 | refine below_set ?_ GE1151.out | refine below_set ?_ GE1152.out) | exact HB.out)⟩⟩
 case round =>
  clear H'
  (try clear p2); (try clear c3)
  obtain ⟨x5_1, rfl, HA, HK1, BK1151, BK1152, HB⟩ := hrel
  cases gk with
  | zero => exact absurd HA.out (by simp [laws_eqIntA4.l0])
  | succ k1 =>
   have H := HA.out
   clear HA
   simp only [laws_eqIntA4.l0] at H
   by_cases c5 : x5_1 < 4
   ·rw [if_pos c5] at H
    have c5b0 : decide (x5_1 < 4) = true := decide_eq_true c5
    clear c5
    by_cases c6 : x5_1 = 0
    ·subst c6
     have H1 : (if a0_0 = a1_0 then (laws_eqIntA4.l0 k1 (wrap64 (0 + 1)) a0_0 a0_1 a0_2 a0_3 a1_0 a1_1 a1_2 a1_3) else (some false)) = some r := by rw [if_pos rfl] at H; exact H
     clear H
     have H := H1
     clear H1
     by_cases c7 : a0_0 = a1_0
     ·rw [if_pos c7] at H
      have c7b0 : (a0_0 == a1_0) = true := beq_iff_eq.mpr c7
      have c7b1 : (a0_0 != a1_0) = false := bne_eq_false_iff_eq.mpr c7
      clear c7
      have H' := Aside0.mk H
      clear H
      have hnb8 := NB1151_1152.out
      have hnc8 := NB1152_1151.out
      obtain ⟨hcz9_0, hcz9_1, hcz9_2, hcz9_3, hfz9_0, hfz9_1, hfz9_2, hfz9_3⟩ := cs4_ BK1151.out
      obtain ⟨hcz10_0, hcz10_1, hcz10_2, hcz10_3, hfz10_0, hfz10_1, hfz10_2, hfz10_3⟩ := cs4_ BK1152.out
      go_wp2
      repeat (go_quiet (fail); try go_wp2)
      go_roundg k1
      case measure => have := HK1.out; omega
      case rel => exact ⟨(wrap64 (0 + 1)), (by first | rfl | (simp; done) | (simp [*]; done) | (simp [wrap64]; done)), H', ⟨by have := HK1.out; omega⟩, ⟨BK1151.out⟩, ⟨BK1152.out⟩, ⟨by repeat (first | (with_reducible first | exact HB.out | apply below_alloc | apply pw_below_drewN | apply below_drew1 | refine below_set ?_ GE1151.out | refine below_set ?_ GE1152.out) | exact HB.out)⟩⟩
     ·rw [if_neg c7] at H
      have c7b0 : (a0_0 == a1_0) = false := beq_eq_false_iff_ne.mpr c7
      have c7b1 : (a0_0 != a1_0) = true := bne_iff_ne.mpr c7
      obtain rfl := Option.some.inj H
      have hnb11 := NB1151_1152.out
      have hnc11 := NB1152_1151.out
      obtain ⟨hcz12_0, hcz12_1, hcz12_2, hcz12_3, hfz12_0, hfz12_1, hfz12_2, hfz12_3⟩ := cs4_ BK1151.out
      obtain ⟨hcz13_0, hcz13_1, hcz13_2, hcz13_3, hfz13_0, hfz13_1, hfz13_2, hfz13_3⟩ := cs4_ BK1152.out
      go_wp2
      repeat (go_quiet (fail); try go_wp2)
      go_ret
      exact ⟨by first | rfl | (simp [errW_none, errW_some] <;> rfl) | (simp [*, errW_none, errW_some] <;> rfl), by repeat (first | (with_reducible first | exact HB.out | apply below_alloc | apply pw_below_drewN | apply below_drew1 | refine below_set ?_ GE1151.out | refine below_set ?_ GE1152.out) | exact HB.out)⟩
    ·rw [if_neg c6] at H
     clear c6
     by_cases c14 : x5_1 = 1
     ·subst c14
      have H1 : (if a0_1 = a1_1 then (laws_eqIntA4.l0 k1 (wrap64 (1 + 1)) a0_0 a0_1 a0_2 a0_3 a1_0 a1_1 a1_2 a1_3) else (some false)) = some r := by rw [if_pos rfl] at H; exact H
      clear H
      have H := H1
      clear H1
      by_cases c15 : a0_1 = a1_1
      ·rw [if_pos c15] at H
       have c15b0 : (a0_1 == a1_1) = true := beq_iff_eq.mpr c15
       have c15b1 : (a0_1 != a1_1) = false := bne_eq_false_iff_eq.mpr c15
       clear c15
       have H' := Aside0.mk H
       clear H
       have hnb16 := NB1151_1152.out
       have hnc16 := NB1152_1151.out
       obtain ⟨hcz17_0, hcz17_1, hcz17_2, hcz17_3, hfz17_0, hfz17_1, hfz17_2, hfz17_3⟩ := cs4_ BK1151.out
       obtain ⟨hcz18_0, hcz18_1, hcz18_2, hcz18_3, hfz18_0, hfz18_1, hfz18_2, hfz18_3⟩ := cs4_ BK1152.out
       go_wp2
       repeat (go_quiet (fail); try go_wp2)
       go_roundg k1
       case measure => have := HK1.out; omega
       case rel => exact ⟨(wrap64 (1 + 1)), (by first | rfl | (simp; done) | (simp [*]; done) | (simp [wrap64]; done)), H', ⟨by have := HK1.out; omega⟩, ⟨BK1151.out⟩, ⟨BK1152.out⟩, ⟨by repeat (first | (with_reducible first | exact HB.out | apply below_alloc | apply pw_below_drewN | apply below_drew1 | refine below_set ?_ GE1151.out | refine below_set ?_ GE1152.out) | exact HB.out)⟩⟩
      ·rw [if_neg c15] at H
       have c15b0 : (a0_1 == a1_1) = false := beq_eq_false_iff_ne.mpr c15
       have c15b1 : (a0_1 != a1_1) = true := bne_iff_ne.mpr c15
       obtain rfl := Option.some.inj H
       have hnb19 := NB1151_1152.out
       have hnc19 := NB1152_1151.out
       obtain ⟨hcz20_0, hcz20_1, hcz20_2, hcz20_3, hfz20_0, hfz20_1, hfz20_2, hfz20_3⟩ := cs4_ BK1151.out
       obtain ⟨hcz21_0, hcz21_1, hcz21_2, hcz21_3, hfz21_0, hfz21_1, hfz21_2, hfz21_3⟩ := cs4_ BK1152.out
       go_wp2
       repeat (go_quiet (fail); try go_wp2)
       go_ret
       exact ⟨by first | rfl | (simp [errW_none, errW_some] <;> rfl) | (simp [*, errW_none, errW_some] <;> rfl), by repeat (first | (with_reducible first | exact HB.out | apply below_alloc | apply pw_below_drewN | apply below_drew1 | refine below_set ?_ GE1151.out | refine below_set ?_ GE1152.out) | exact HB.out)⟩
     ·rw [if_neg c14] at H
      clear c14
      by_cases c22 : x5_1 = 2
      ·subst c22
       have H1 : (if a0_2 = a1_2 then (laws_eqIntA4.l0 k1 (wrap64 (2 + 1)) a0_0 a0_1 a0_2 a0_3 a1_0 a1_1 a1_2 a1_3) else (some false)) = some r := by rw [if_pos rfl] at H; exact H
       clear H
       have H := H1
       clear H1
       by_cases c23 : a0_2 = a1_2
       ·rw [if_pos c23] at H
        have c23b0 : (a0_2 == a1_2) = true := beq_iff_eq.mpr c23
        have c23b1 : (a0_2 != a1_2) = false := bne_eq_false_iff_eq.mpr c23
        clear c23
        have H' := Aside0.mk H
        clear H
        have hnb24 := NB1151_1152.out
        have hnc24 := NB1152_1151.out
        obtain ⟨hcz25_0, hcz25_1, hcz25_2, hcz25_3, hfz25_0, hfz25_1, hfz25_2, hfz25_3⟩ := cs4_ BK1151.out
        obtain ⟨hcz26_0, hcz26_1, hcz26_2, hcz26_3, hfz26_0, hfz26_1, hfz26_2, hfz26_3⟩ := cs4_ BK1152.out
        go_wp2
        repeat (go_quiet (fail); try go_wp2)
        go_roundg k1
        case measure => have := HK1.out; omega
        case rel => exact ⟨(wrap64 (2 + 1)), (by first | rfl | (simp; done) | (simp [*]; done) | (simp [wrap64]; done)), H', ⟨by have := HK1.out; omega⟩, ⟨BK1151.out⟩, ⟨BK1152.out⟩, ⟨by repeat (first | (with_reducible first | exact HB.out | apply below_alloc | apply pw_below_drewN | apply below_drew1 | refine below_set ?_ GE1151.out | refine below_set ?_ GE1152.out) | exact HB.out)⟩⟩
       ·rw [if_neg c23] at H
        have c23b0 : (a0_2 == a1_2) = false := beq_eq_false_iff_ne.mpr c23
        have c23b1 : (a0_2 != a1_2) = true := bne_iff_ne.mpr c23
        obtain rfl := Option.some.inj H
        have hnb27 := NB1151_1152.out
        have hnc27 := NB1152_1151.out
        obtain ⟨hcz28_0, hcz28_1, hcz28_2, hcz28_3, hfz28_0, hfz28_1, hfz28_2, hfz28_3⟩ := cs4_ BK1151.out
        obtain ⟨hcz29_0, hcz29_1, hcz29_2, hcz29_3, hfz29_0, hfz29_1, hfz29_2, hfz29_3⟩ := cs4_ BK1152.out
        go_wp2
        repeat (go_quiet (fail); try go_wp2)
        go_ret
        exact ⟨by first | rfl | (simp [errW_none, errW_some] <;> rfl) | (simp [*, errW_none, errW_some] <;> rfl), by repeat (first | (with_reducible first | exact HB.out | apply below_alloc | apply pw_below_drewN | apply below_drew1 | refine below_set ?_ GE1151.out | refine below_set ?_ GE1152.out) | exact HB.out)⟩
      ·rw [if_neg c22] at H
       clear c22
       by_cases c30 : x5_1 = 3
       ·subst c30
        have H1 : (if a0_3 = a1_3 then (laws_eqIntA4.l0 k1 (wrap64 (3 + 1)) a0_0 a0_1 a0_2 a0_3 a1_0 a1_1 a1_2 a1_3) else (some false)) = some r := by rw [if_pos rfl] at H; exact H
        clear H
        have H := H1
        clear H1
        by_cases c31 : a0_3 = a1_3
        ·rw [if_pos c31] at H
         have c31b0 : (a0_3 == a1_3) = true := beq_iff_eq.mpr c31
         have c31b1 : (a0_3 != a1_3) = false := bne_eq_false_iff_eq.mpr c31
         clear c31
         have H' := Aside0.mk H
         clear H
         have hnb32 := NB1151_1152.out
         have hnc32 := NB1152_1151.out
         obtain ⟨hcz33_0, hcz33_1, hcz33_2, hcz33_3, hfz33_0, hfz33_1, hfz33_2, hfz33_3⟩ := cs4_ BK1151.out
         obtain ⟨hcz34_0, hcz34_1, hcz34_2, hcz34_3, hfz34_0, hfz34_1, hfz34_2, hfz34_3⟩ := cs4_ BK1152.out
         go_wp2
         repeat (go_quiet (fail); try go_wp2)
         go_roundg k1
         case measure => have := HK1.out; omega
         case rel => exact ⟨(wrap64 (3 + 1)), (by first | rfl | (simp; done) | (simp [*]; done) | (simp [wrap64]; done)), H', ⟨by have := HK1.out; omega⟩, ⟨BK1151.out⟩, ⟨BK1152.out⟩, ⟨by repeat (first | (with_reducible first | exact HB.out | apply below_alloc | apply pw_below_drewN | apply below_drew1 | refine below_set ?_ GE1151.out | refine below_set ?_ GE1152.out) | exact HB.out)⟩⟩
        ·rw [if_neg c31] at H
         have c31b0 : (a0_3 == a1_3) = false := beq_eq_false_iff_ne.mpr c31
         have c31b1 : (a0_3 != a1_3) = true := bne_iff_ne.mpr c31
         obtain rfl := Option.some.inj H
         have hnb35 := NB1151_1152.out
         have hnc35 := NB1152_1151.out
         obtain ⟨hcz36_0, hcz36_1, hcz36_2, hcz36_3, hfz36_0, hfz36_1, hfz36_2, hfz36_3⟩ := cs4_ BK1151.out
         obtain ⟨hcz37_0, hcz37_1, hcz37_2, hcz37_3, hfz37_0, hfz37_1, hfz37_2, hfz37_3⟩ := cs4_ BK1152.out
         go_wp2
         repeat (go_quiet (fail); try go_wp2)
         go_ret
         exact ⟨by first | rfl | (simp [errW_none, errW_some] <;> rfl) | (simp [*, errW_none, errW_some] <;> rfl), by repeat (first | (with_reducible first | exact HB.out | apply below_alloc | apply pw_below_drewN | apply below_drew1 | refine below_set ?_ GE1151.out | refine below_set ?_ GE1152.out) | exact HB.out)⟩
       ·rw [if_neg c30] at H
        clear c30
        exact absurd H (by simp)
   ·rw [if_neg c5] at H
    have c5b0 : decide (x5_1 < 4) = false := decide_eq_false c5
    clear c5
    obtain rfl := Option.some.inj H
    go_wp2
    repeat (go_quiet (fail); try go_wp2)
    go_ret
    exact ⟨by first | rfl | (simp [errW_none, errW_some] <;> rfl) | (simp [*, errW_none, errW_some] <;> rfl), by repeat (first | (with_reducible first | exact HB.out | apply below_alloc | apply pw_below_drewN | apply below_drew1 | refine below_set ?_ GE1151.out | refine below_set ?_ GE1152.out) | exact HB.out)⟩

def laws_FnExactCounts.j0 : Nat → Bool → List (S114) → List Int → List Int → List (S109) → Int → List (S77) → List Int → List Int → List (S41) → Int → Option (Bool)
 | 0, _, _, _, _, _, _, _, _, _, _, _ => none
 | k + 1, x35, x1154000, x1154001, x1154002, x1154003, x1154004, x1188000, x1188001, x1188002, x1188003, x1188004 => if x35 = true then (some false) else ((laws_toYard.f k x1154000 x1154001 x1154002 x1154003 x1154004).bind fun bt1195 => ((laws_eqYard.f k x1188000 x1188001 x1188002 x1188003 x1188004 bt1195.1 bt1195.2.1 bt1195.2.2.1 bt1195.2.2.2.1 bt1195.2.2.2.2).bind fun t1208 => (if t1208 = true then (some true) else (some false))))
def laws_FnExactCounts.f (k : Nat) (l0_0 : List (S114)) (l0_1 : List Int) (l0_2 : List Int) (l0_3 : List (S109)) (a0_4 : Int) : Option (Bool) := (laws_szYard.f l0_0 l0_1 l0_2 l0_3 a0_4 1048576).bind fun t1154 => (if t1154 < 0 then (some true) else ((laws_toYard.f k l0_0 l0_1 l0_2 l0_3 a0_4).bind fun bt1155 => ((spec_Counts.f k bt1155.1 bt1155.2.1 bt1155.2.2.1 bt1155.2.2.2.1 bt1155.2.2.2.2).bind fun bt1168 => ((laws_toYard.f k l0_0 l0_1 l0_2 l0_3 a0_4).bind fun bt1174 => ((impl_Counts.f k bt1174.1 bt1174.2.1 bt1174.2.2.1 bt1174.2.2.2.1 bt1174.2.2.2.2).bind fun bt1188 => ((laws_eqIntA4.f k bt1188.1 bt1188.2.1 bt1188.2.2.1 bt1188.2.2.2.1 bt1168.1 bt1168.2.1 bt1168.2.2.1 bt1168.2.2.2.1).bind fun t1194 => (if t1194 = true then (laws_FnExactCounts.j0 k (bt1188.2.2.2.2 != bt1168.2.2.2.2) l0_0 l0_1 l0_2 l0_3 a0_4 bt1174.1 bt1174.2.1 bt1174.2.2.1 bt1174.2.2.2.1 bt1174.2.2.2.2) else (laws_FnExactCounts.j0 k true l0_0 l0_1 l0_2 l0_3 a0_4 bt1174.1 bt1174.2.1 bt1174.2.2.1 bt1174.2.2.2.1 bt1174.2.2.2.2))))))))
set_option maxHeartbeats 8000000 in
set_option maxRecDepth 100000 in
theorem laws_FnExactCounts.calls (k : Nat) (A0_0 : Option Addr) (c0_0 : Nat) (l0_0 : List (S114)) (A0_1 : Option Addr) (c0_1 : Nat) (l0_1 : List Int) (A0_2 : Option Addr) (c0_2 : Nat) (l0_2 : List Int) (A0_3 : Option Addr) (c0_3 : Nat) (l0_3 : List (S109)) (a0_4 : Int) (w : World) (hr0_0 : Kd.C k114 w A0_0 l0_0.length l0_0) (hc0_0 : l0_0.length ≤ c0_0) (hr0_1 : Kd.C (Kd.int .i64) w A0_1 l0_1.length l0_1) (hc0_1 : l0_1.length ≤ c0_1) (hr0_2 : Kd.C (Kd.int .i64) w A0_2 l0_2.length l0_2) (hc0_2 : l0_2.length ≤ c0_2) (hr0_3 : Kd.C k109 w A0_3 l0_3.length l0_3) (hc0_3 : l0_3.length ≤ c0_3) (h : laws_FnExactCounts.f k l0_0 l0_1 l0_2 l0_3 a0_4 = some true) :
  Calls Try.prog 8 #[.agg #[.slice A0_0 l0_0.length c0_0, .slice A0_1 l0_1.length c0_1, .slice A0_2 l0_2.length c0_2, .slice A0_3 l0_3.length c0_3, .int .i64 a0_4]] w fun e w' => e = .returned (.bool true) ∧ Below w.heap.size w w' := by
 have hu56 := Try.underlying56
 have hu32 := Try.underlying32
 have hu30 := Try.underlying30
 have HR0_0 := Aside0.mk hr0_0
 have HC0_0 := Aside0.mk hc0_0
 clear hr0_0 hc0_0
 have HR0_1 := Aside0.mk hr0_1
 have HC0_1 := Aside0.mk hc0_1
 clear hr0_1 hc0_1
 have HR0_2 := Aside0.mk hr0_2
 have HC0_2 := Aside0.mk hc0_2
 clear hr0_2 hc0_2
 have HR0_3 := Aside0.mk hr0_3
 have HC0_3 := Aside0.mk hc0_3
 clear hr0_3 hc0_3
 have HB := Aside0.mk (Below.refl w.heap.size w)
 have H : ((laws_szYard.f l0_0 l0_1 l0_2 l0_3 a0_4 1048576).bind fun t1154 => (if t1154 < 0 then (some true) else ((laws_toYard.f k l0_0 l0_1 l0_2 l0_3 a0_4).bind fun bt1155 => ((spec_Counts.f k bt1155.1 bt1155.2.1 bt1155.2.2.1 bt1155.2.2.2.1 bt1155.2.2.2.2).bind fun bt1168 => ((laws_toYard.f k l0_0 l0_1 l0_2 l0_3 a0_4).bind fun bt1174 => ((impl_Counts.f k bt1174.1 bt1174.2.1 bt1174.2.2.1 bt1174.2.2.2.1 bt1174.2.2.2.2).bind fun bt1188 => ((laws_eqIntA4.f k bt1188.1 bt1188.2.1 bt1188.2.2.1 bt1188.2.2.2.1 bt1168.1 bt1168.2.1 bt1168.2.2.1 bt1168.2.2.2.1).bind fun t1194 => (if t1194 = true then (laws_FnExactCounts.j0 k (bt1188.2.2.2.2 != bt1168.2.2.2.2) l0_0 l0_1 l0_2 l0_3 a0_4 bt1174.1 bt1174.2.1 bt1174.2.2.1 bt1174.2.2.2.1 bt1174.2.2.2.2) else (laws_FnExactCounts.j0 k true l0_0 l0_1 l0_2 l0_3 a0_4 bt1174.1 bt1174.2.1 bt1174.2.2.1 bt1174.2.2.2.1 bt1174.2.2.2.2))))))))) = some true := h
 clear h
 replace H := Option.bind_eq_some_iff.mp H
 obtain ⟨t1154, A20, H⟩ := H
 replace H : (if t1154 < 0 then (some true) else ((laws_toYard.f k l0_0 l0_1 l0_2 l0_3 a0_4).bind fun bt1155 => ((spec_Counts.f k bt1155.1 bt1155.2.1 bt1155.2.2.1 bt1155.2.2.2.1 bt1155.2.2.2.2).bind fun bt1168 => ((laws_toYard.f k l0_0 l0_1 l0_2 l0_3 a0_4).bind fun bt1174 => ((impl_Counts.f k bt1174.1 bt1174.2.1 bt1174.2.2.1 bt1174.2.2.2.1 bt1174.2.2.2.2).bind fun bt1188 => ((laws_eqIntA4.f k bt1188.1 bt1188.2.1 bt1188.2.2.1 bt1188.2.2.2.1 bt1168.1 bt1168.2.1 bt1168.2.2.1 bt1168.2.2.2.1).bind fun t1194 => (if t1194 = true then (laws_FnExactCounts.j0 k (bt1188.2.2.2.2 != bt1168.2.2.2.2) l0_0 l0_1 l0_2 l0_3 a0_4 bt1174.1 bt1174.2.1 bt1174.2.2.1 bt1174.2.2.2.1 bt1174.2.2.2.2) else (laws_FnExactCounts.j0 k true l0_0 l0_1 l0_2 l0_3 a0_4 bt1174.1 bt1174.2.1 bt1174.2.2.1 bt1174.2.2.2.1 bt1174.2.2.2.2)))))))) = some true := H
 have A2 := Aside0.mk A20
 clear A20
 by_cases c3 : t1154 < 0
 ·rw [if_pos c3] at H
  have c3b0 : decide (t1154 < 0) = true := decide_eq_true c3
  clear c3
  clear H
  go_enter Try.func8, Try.ntmps8
  go_wp2_with (first | ((with_reducible refine gate_dst (N := 1) rfl ?_); refine box_event ?hg (N := 1) ?hd (cs := #[.slice A0_0 l0_0.length c0_0, .slice A0_1 l0_1.length c0_1, .slice A0_2 l0_2.length c0_2, .slice A0_3 l0_3.length c0_3, .int .i64 a0_4]) (t := 56) ?hr ?_; (case hd => rfl); (case hg => rfl); (case hr => first | (go_simp; done) | (go_simp; rfl)); intro gb1153 hg w4 hbox hb; have n0_ := Aside0.mk (below_step (by repeat (first | (with_reducible first | exact HB.out | apply below_alloc | apply pw_below_drewN | apply below_drew1) | exact HB.out)) hb); have n1_ := Aside0.mk (hbox); have n2_ := Aside0.mk ((by rw [hg]; exact (below_size (by repeat (first | (with_reducible first | exact HB.out | apply below_alloc | apply pw_below_drewN | apply below_drew1) | exact HB.out))) : w.heap.size ≤ gb1153)); have n3_ := n2_; replace HB := n0_; have BK1153 := n1_; have GW1153 := n2_; have GE1153 := n3_; clear n0_ n1_ n2_ n3_; clear hb hbox hg; obtain ⟨hcz5_0, hcz5_1, hcz5_2, hcz5_3, hcz5_4, hfz5_0, hfz5_1, hfz5_2, hfz5_3, hfz5_4⟩ := cs5_ BK1153.out) | ((with_reducible refine gate_callee (f := 30) rfl ?_); refine goesL_ (some 11) rfl rfl Try.func30 (by kernel_rfl) rfl #[.agg #[.slice A0_0 l0_0.length c0_0, .slice A0_1 l0_1.length c0_1, .slice A0_2 l0_2.length c0_2, .slice A0_3 l0_3.length c0_3, .int .i64 a0_4], .int .i64 1048576] rfl (by (try simp only [List.map_toArray, List.map_cons, List.map_nil]); first | done | rfl | (simp only [List.length_drop, List.length_take]; rfl)) ?_; (with_reducible refine (laws_szYard.calls _ _ l0_0 _ _ l0_1 _ _ l0_2 _ _ l0_3 a0_4 1048576 t1154 _ ?side1 ?side2 ?side3 ?side4 ?side5 ?side6 ?side7 ?side8 A2.out).mono ?_); (case side1 => exact (Kd.C_below HR0_0.out HB.out)); (case side2 => exact HC0_0.out); (case side3 => exact (Kd.C_below HR0_1.out HB.out)); (case side4 => exact HC0_1.out); (case side5 => exact (Kd.C_below HR0_2.out HB.out)); (case side6 => exact HC0_2.out); (case side7 => exact (Kd.C_below HR0_3.out HB.out)); (case side8 => exact HC0_3.out); rintro e w6 ⟨rfl, hb⟩; refine ⟨_, rfl, ?_⟩; have n0_ := Aside0.mk (blk_below (g := gb1153) (o := .cells #[.slice A0_0 l0_0.length c0_0, .slice A0_1 l0_1.length c0_1, .slice A0_2 l0_2.length c0_2, .slice A0_3 l0_3.length c0_3, .int .i64 a0_4] 56 (0, 0)) BK1153.out hb); have n1_ := Aside0.mk (below_step (by repeat (first | (with_reducible first | exact HB.out | apply below_alloc | apply pw_below_drewN | apply below_drew1 | refine below_set ?_ GE1153.out) | exact HB.out)) hb); replace BK1153 := n0_; replace HB := n1_; clear n0_ n1_; (try clear hb); (try clear hb2); (try clear hk); (try clear hi)))
  go_ret
  (try rw [HT_.out])
  (try simp only [HT_.out])
  exact ⟨by first | rfl | (simp [errW_none, errW_some] <;> rfl) | (simp [*, errW_none, errW_some] <;> rfl), by repeat (first | (with_reducible first | exact HB.out | apply below_alloc | apply pw_below_drewN | apply below_drew1 | refine below_set ?_ GE1153.out) | exact HB.out)⟩
 ·rw [if_neg c3] at H
  have c3b0 : decide (t1154 < 0) = false := decide_eq_false c3
  clear c3
  replace H := Option.bind_eq_some_iff.mp H
  obtain ⟨⟨t1155, t1158, t1161, t1164, t1167⟩, A70, H⟩ := H
  replace H : ((spec_Counts.f k t1155 t1158 t1161 t1164 t1167).bind fun bt1168 => ((laws_toYard.f k l0_0 l0_1 l0_2 l0_3 a0_4).bind fun bt1174 => ((impl_Counts.f k bt1174.1 bt1174.2.1 bt1174.2.2.1 bt1174.2.2.2.1 bt1174.2.2.2.2).bind fun bt1188 => ((laws_eqIntA4.f k bt1188.1 bt1188.2.1 bt1188.2.2.1 bt1188.2.2.2.1 bt1168.1 bt1168.2.1 bt1168.2.2.1 bt1168.2.2.2.1).bind fun t1194 => (if t1194 = true then (laws_FnExactCounts.j0 k (bt1188.2.2.2.2 != bt1168.2.2.2.2) l0_0 l0_1 l0_2 l0_3 a0_4 bt1174.1 bt1174.2.1 bt1174.2.2.1 bt1174.2.2.2.1 bt1174.2.2.2.2) else (laws_FnExactCounts.j0 k true l0_0 l0_1 l0_2 l0_3 a0_4 bt1174.1 bt1174.2.1 bt1174.2.2.1 bt1174.2.2.2.1 bt1174.2.2.2.2)))))) = some true := H
  have A7 := Aside0.mk A70
  clear A70
  replace H := Option.bind_eq_some_iff.mp H
  obtain ⟨⟨t1168, t1169, t1170, t1171, t1172⟩, A80, H⟩ := H
  replace H : ((laws_toYard.f k l0_0 l0_1 l0_2 l0_3 a0_4).bind fun bt1174 => ((impl_Counts.f k bt1174.1 bt1174.2.1 bt1174.2.2.1 bt1174.2.2.2.1 bt1174.2.2.2.2).bind fun bt1188 => ((laws_eqIntA4.f k bt1188.1 bt1188.2.1 bt1188.2.2.1 bt1188.2.2.2.1 t1168 t1169 t1170 t1171).bind fun t1194 => (if t1194 = true then (laws_FnExactCounts.j0 k (bt1188.2.2.2.2 != t1172) l0_0 l0_1 l0_2 l0_3 a0_4 bt1174.1 bt1174.2.1 bt1174.2.2.1 bt1174.2.2.2.1 bt1174.2.2.2.2) else (laws_FnExactCounts.j0 k true l0_0 l0_1 l0_2 l0_3 a0_4 bt1174.1 bt1174.2.1 bt1174.2.2.1 bt1174.2.2.2.1 bt1174.2.2.2.2))))) = some true := H
  have A8 := Aside0.mk A80
  clear A80
  replace H := Option.bind_eq_some_iff.mp H
  obtain ⟨⟨t1174, t1177, t1180, t1183, t1186⟩, A90, H⟩ := H
  replace H : ((impl_Counts.f k t1174 t1177 t1180 t1183 t1186).bind fun bt1188 => ((laws_eqIntA4.f k bt1188.1 bt1188.2.1 bt1188.2.2.1 bt1188.2.2.2.1 t1168 t1169 t1170 t1171).bind fun t1194 => (if t1194 = true then (laws_FnExactCounts.j0 k (bt1188.2.2.2.2 != t1172) l0_0 l0_1 l0_2 l0_3 a0_4 t1174 t1177 t1180 t1183 t1186) else (laws_FnExactCounts.j0 k true l0_0 l0_1 l0_2 l0_3 a0_4 t1174 t1177 t1180 t1183 t1186)))) = some true := H
  have A9 := Aside0.mk A90
  clear A90
  replace H := Option.bind_eq_some_iff.mp H
  obtain ⟨⟨t1188, t1189, t1190, t1191, t1192⟩, A100, H⟩ := H
  replace H : ((laws_eqIntA4.f k t1188 t1189 t1190 t1191 t1168 t1169 t1170 t1171).bind fun t1194 => (if t1194 = true then (laws_FnExactCounts.j0 k (t1192 != t1172) l0_0 l0_1 l0_2 l0_3 a0_4 t1174 t1177 t1180 t1183 t1186) else (laws_FnExactCounts.j0 k true l0_0 l0_1 l0_2 l0_3 a0_4 t1174 t1177 t1180 t1183 t1186))) = some true := H
  have A10 := Aside0.mk A100
  clear A100
  have HC11 := Aside0.mk H
  clear H
  go_enter Try.func8, Try.ntmps8
  go_upto_region 8 with (first | ((with_reducible refine gate_dst (N := 1) rfl ?_); refine box_event ?hg (N := 1) ?hd (cs := #[.slice A0_0 l0_0.length c0_0, .slice A0_1 l0_1.length c0_1, .slice A0_2 l0_2.length c0_2, .slice A0_3 l0_3.length c0_3, .int .i64 a0_4]) (t := 56) ?hr ?_; (case hd => rfl); (case hg => rfl); (case hr => first | (go_simp; done) | (go_simp; rfl)); intro gb1153 hg w12 hbox hb; have n0_ := Aside0.mk (below_step (by repeat (first | (with_reducible first | exact HB.out | apply below_alloc | apply pw_below_drewN | apply below_drew1) | exact HB.out)) hb); have n1_ := Aside0.mk (hbox); have n2_ := Aside0.mk ((by rw [hg]; exact (below_size (by repeat (first | (with_reducible first | exact HB.out | apply below_alloc | apply pw_below_drewN | apply below_drew1) | exact HB.out))) : w.heap.size ≤ gb1153)); have n3_ := n2_; replace HB := n0_; have BK1153 := n1_; have GW1153 := n2_; have GE1153 := n3_; clear n0_ n1_ n2_ n3_; clear hb hbox hg; obtain ⟨hcz13_0, hcz13_1, hcz13_2, hcz13_3, hcz13_4, hfz13_0, hfz13_1, hfz13_2, hfz13_3, hfz13_4⟩ := cs5_ BK1153.out) | ((with_reducible refine gate_callee (f := 30) rfl ?_); refine goesL_ (some 11) rfl rfl Try.func30 (by kernel_rfl) rfl #[.agg #[.slice A0_0 l0_0.length c0_0, .slice A0_1 l0_1.length c0_1, .slice A0_2 l0_2.length c0_2, .slice A0_3 l0_3.length c0_3, .int .i64 a0_4], .int .i64 1048576] rfl (by (try simp only [List.map_toArray, List.map_cons, List.map_nil]); first | done | rfl | (simp only [List.length_drop, List.length_take]; rfl)) ?_; (with_reducible refine (laws_szYard.calls _ _ l0_0 _ _ l0_1 _ _ l0_2 _ _ l0_3 a0_4 1048576 t1154 _ ?side1 ?side2 ?side3 ?side4 ?side5 ?side6 ?side7 ?side8 A2.out).mono ?_); (case side1 => exact (Kd.C_below HR0_0.out HB.out)); (case side2 => exact HC0_0.out); (case side3 => exact (Kd.C_below HR0_1.out HB.out)); (case side4 => exact HC0_1.out); (case side5 => exact (Kd.C_below HR0_2.out HB.out)); (case side6 => exact HC0_2.out); (case side7 => exact (Kd.C_below HR0_3.out HB.out)); (case side8 => exact HC0_3.out); rintro e w14 ⟨rfl, hb⟩; refine ⟨_, rfl, ?_⟩; have n0_ := Aside0.mk (blk_below (g := gb1153) (o := .cells #[.slice A0_0 l0_0.length c0_0, .slice A0_1 l0_1.length c0_1, .slice A0_2 l0_2.length c0_2, .slice A0_3 l0_3.length c0_3, .int .i64 a0_4] 56 (0, 0)) BK1153.out hb); have n1_ := Aside0.mk (below_step (by repeat (first | (with_reducible first | exact HB.out | apply below_alloc | apply pw_below_drewN | apply below_drew1 | refine below_set ?_ GE1153.out) | exact HB.out)) hb); replace BK1153 := n0_; replace HB := n1_; clear n0_ n1_; (try clear hb); (try clear hb2); (try clear hk); (try clear hi); obtain ⟨hcz15_0, hcz15_1, hcz15_2, hcz15_3, hcz15_4, hfz15_0, hfz15_1, hfz15_2, hfz15_3, hfz15_4⟩ := cs5_ BK1153.out) | ((with_reducible refine gate_callee (f := 32) rfl ?_); refine goesL_ (some 16) rfl rfl Try.func32 (by kernel_rfl) rfl #[.agg #[.slice A0_0 l0_0.length c0_0, .slice A0_1 l0_1.length c0_1, .slice A0_2 l0_2.length c0_2, .slice A0_3 l0_3.length c0_3, .int .i64 a0_4]] rfl (by (try simp only [List.map_toArray, List.map_cons, List.map_nil]); first | done | rfl | (simp only [List.length_drop, List.length_take]; rfl)) ?_; (with_reducible refine (laws_toYard.calls k _ _ l0_0 _ _ l0_1 _ _ l0_2 _ _ l0_3 a0_4 t1155 t1158 t1161 t1164 t1167 _ ?side1 ?side2 ?side3 ?side4 ?side5 ?side6 ?side7 ?side8 A7.out).mono ?_); (case side1 => exact (Kd.C_below HR0_0.out HB.out)); (case side2 => exact HC0_0.out); (case side3 => exact (Kd.C_below HR0_1.out HB.out)); (case side4 => exact HC0_1.out); (case side5 => exact (Kd.C_below HR0_2.out HB.out)); (case side6 => exact HC0_2.out); (case side7 => exact (Kd.C_below HR0_3.out HB.out)); (case side8 => exact HC0_3.out); rintro e w16 ⟨v1156, v1159, v1162, v1165, rfl, ho0, ho1, ho2, ho3, hb⟩; refine ⟨_, rfl, ?_⟩; have n0_ := Aside0.mk (Kd.R_lower ho0 (below_size (by repeat (first | (with_reducible first | exact HB.out | apply below_alloc | apply pw_below_drewN | apply below_drew1 | refine below_set ?_ GE1153.out) | exact HB.out)))); have n1_ := Aside0.mk (Kd.R_lower ho1 (below_size (by repeat (first | (with_reducible first | exact HB.out | apply below_alloc | apply pw_below_drewN | apply below_drew1 | refine below_set ?_ GE1153.out) | exact HB.out)))); have n2_ := Aside0.mk (Kd.R_lower ho2 (below_size (by repeat (first | (with_reducible first | exact HB.out | apply below_alloc | apply pw_below_drewN | apply below_drew1 | refine below_set ?_ GE1153.out) | exact HB.out)))); have n3_ := Aside0.mk (Kd.R_lower ho3 (below_size (by repeat (first | (with_reducible first | exact HB.out | apply below_alloc | apply pw_below_drewN | apply below_drew1 | refine below_set ?_ GE1153.out) | exact HB.out)))); have n4_ := Aside0.mk (blk_below (g := gb1153) (o := .cells #[.slice A0_0 l0_0.length c0_0, .slice A0_1 l0_1.length c0_1, .slice A0_2 l0_2.length c0_2, .slice A0_3 l0_3.length c0_3, .int .i64 a0_4] 56 (0, 0)) BK1153.out hb); have n5_ := Aside0.mk (below_step (by repeat (first | (with_reducible first | exact HB.out | apply below_alloc | apply pw_below_drewN | apply below_drew1 | refine below_set ?_ GE1153.out) | exact HB.out)) hb); have HO1157 := n0_; have HO1160 := n1_; have HO1163 := n2_; have HO1166 := n3_; replace BK1153 := n4_; replace HB := n5_; clear n0_ n1_ n2_ n3_ n4_ n5_; (try clear hb); (try clear hb2); (try clear hk); (try clear hi); (try clear ho0); (try clear ho1); (try clear ho2); (try clear ho3); obtain ⟨Ao17, co17, eo17⟩ := Kd.R_slice HO1157.out; subst eo17; obtain ⟨Ao18, co18, eo18⟩ := Kd.R_slice HO1160.out; subst eo18; obtain ⟨Ao19, co19, eo19⟩ := Kd.R_slice HO1163.out; subst eo19; obtain ⟨Ao20, co20, eo20⟩ := Kd.R_slice HO1166.out; subst eo20) | ((with_reducible refine gate_callee (f := 34) rfl ?_); refine goesL_ (some 17) rfl rfl Try.func34 (by kernel_rfl) rfl #[.agg #[.slice Ao17 t1155.length co17, .slice Ao18 t1158.length co18, .slice Ao19 t1161.length co19, .slice Ao20 t1164.length co20, .int .i64 t1167]] rfl (by (try simp only [List.map_toArray, List.map_cons, List.map_nil]); first | done | rfl | (simp only [List.length_drop, List.length_take]; rfl)) ?_; (with_reducible refine (spec_Counts.calls k _ _ t1155 _ _ t1158 _ _ t1161 _ _ t1164 t1167 t1168 t1169 t1170 t1171 t1172 _ ?side1 ?side2 ?side3 ?side4 ?side5 ?side6 ?side7 ?side8 A8.out).mono ?_); (case side1 => repeat (first | exact (Kd.R_reads' HO1157.out).2.2 | (with_reducible refine Kd.C_alloc ?_ _) | (with_reducible refine Kd.C_drewN ?_ _) | (with_reducible refine Kd.C_drew ?_))); (case side2 => exact (Kd.R_reads' HO1157.out).2.1); (case side3 => repeat (first | exact (Kd.R_reads' HO1160.out).2.2 | (with_reducible refine Kd.C_alloc ?_ _) | (with_reducible refine Kd.C_drewN ?_ _) | (with_reducible refine Kd.C_drew ?_))); (case side4 => exact (Kd.R_reads' HO1160.out).2.1); (case side5 => repeat (first | exact (Kd.R_reads' HO1163.out).2.2 | (with_reducible refine Kd.C_alloc ?_ _) | (with_reducible refine Kd.C_drewN ?_ _) | (with_reducible refine Kd.C_drew ?_))); (case side6 => exact (Kd.R_reads' HO1163.out).2.1); (case side7 => repeat (first | exact (Kd.R_reads' HO1166.out).2.2 | (with_reducible refine Kd.C_alloc ?_ _) | (with_reducible refine Kd.C_drewN ?_ _) | (with_reducible refine Kd.C_drew ?_))); (case side8 => exact (Kd.R_reads' HO1166.out).2.1); rintro e w21 ⟨rfl, hb⟩; refine ⟨_, rfl, ?_⟩; have n0_ := Aside0.mk (Kd.R_below HO1157.out hb); have n1_ := Aside0.mk (Kd.R_below HO1160.out hb); have n2_ := Aside0.mk (Kd.R_below HO1163.out hb); have n3_ := Aside0.mk (Kd.R_below HO1166.out hb); have n4_ := Aside0.mk (blk_below (g := gb1153) (o := .cells #[.slice A0_0 l0_0.length c0_0, .slice A0_1 l0_1.length c0_1, .slice A0_2 l0_2.length c0_2, .slice A0_3 l0_3.length c0_3, .int .i64 a0_4] 56 (0, 0)) BK1153.out hb); have n5_ := Aside0.mk (below_step (by repeat (first | (with_reducible first | exact HB.out | apply below_alloc | apply pw_below_drewN | apply below_drew1 | refine below_set ?_ GE1153.out) | exact HB.out)) hb); replace HO1157 := n0_; replace HO1160 := n1_; replace HO1163 := n2_; replace HO1166 := n3_; replace BK1153 := n4_; replace HB := n5_; clear n0_ n1_ n2_ n3_ n4_ n5_; (try clear hb); (try clear hb2); (try clear hk); (try clear hi)) | ((with_reducible refine gate_dst (N := 4) rfl ?_); refine box_event ?hg (N := 4) ?hd (cs := #[.int .i64 0, .int .i64 0, .int .i64 0, .int .i64 0]) (t := 32) ?hr ?_; (case hd => rfl); (case hg => rfl); (case hr => first | (go_simp; done) | (go_simp; rfl)); intro gb1173 hg w22 hbox hb; have n0_ := Aside0.mk (Kd.R_below HO1157.out hb); have n1_ := Aside0.mk (Kd.R_below HO1160.out hb); have n2_ := Aside0.mk (Kd.R_below HO1163.out hb); have n3_ := Aside0.mk (Kd.R_below HO1166.out hb); have n4_ := Aside0.mk (blk_below (g := gb1153) (o := .cells #[.slice A0_0 l0_0.length c0_0, .slice A0_1 l0_1.length c0_1, .slice A0_2 l0_2.length c0_2, .slice A0_3 l0_3.length c0_3, .int .i64 a0_4] 56 (0, 0)) BK1153.out hb); have n5_ := Aside0.mk (below_step (by repeat (first | (with_reducible first | exact HB.out | apply below_alloc | apply pw_below_drewN | apply below_drew1 | refine below_set ?_ GE1153.out) | exact HB.out)) hb); have n6_ := Aside0.mk (hbox); have n7_ := Aside0.mk ((by rw [hg]; exact (below_size (by repeat (first | (with_reducible first | exact HB.out | apply below_alloc | apply pw_below_drewN | apply below_drew1 | refine below_set ?_ GE1153.out) | exact HB.out))) : w.heap.size ≤ gb1173)); have n8_ := n7_; have n9_ := Aside0.mk ((by rw [hg]; exact Nat.ne_of_lt (blk_lt (g := gb1153) (o := .cells #[.slice A0_0 l0_0.length c0_0, .slice A0_1 l0_1.length c0_1, .slice A0_2 l0_2.length c0_2, .slice A0_3 l0_3.length c0_3, .int .i64 a0_4] 56 (0, 0)) BK1153.out) : gb1153 ≠ gb1173)); have n10_ := Aside0.mk ((by rw [hg]; exact Nat.ne_of_gt (blk_lt (g := gb1153) (o := .cells #[.slice A0_0 l0_0.length c0_0, .slice A0_1 l0_1.length c0_1, .slice A0_2 l0_2.length c0_2, .slice A0_3 l0_3.length c0_3, .int .i64 a0_4] 56 (0, 0)) BK1153.out) : gb1173 ≠ gb1153)); replace HO1157 := n0_; replace HO1160 := n1_; replace HO1163 := n2_; replace HO1166 := n3_; replace BK1153 := n4_; replace HB := n5_; have BK1173 := n6_; have GW1173 := n7_; have GE1173 := n8_; have NB1153_1173 := n9_; have NB1173_1153 := n10_; clear n0_ n1_ n2_ n3_ n4_ n5_ n6_ n7_ n8_ n9_ n10_; clear hb hbox hg; have hnb23 := NB1173_1153.out; have hnc23 := NB1153_1173.out; obtain ⟨hcz24_0, hcz24_1, hcz24_2, hcz24_3, hfz24_0, hfz24_1, hfz24_2, hfz24_3⟩ := cs4_ BK1173.out; obtain ⟨hcz25_0, hcz25_1, hcz25_2, hcz25_3, hcz25_4, hfz25_0, hfz25_1, hfz25_2, hfz25_3, hfz25_4⟩ := cs5_ BK1153.out) | ((with_reducible refine gate_callee (f := 32) rfl ?_); refine goesL_ (some 21) rfl rfl Try.func32 (by kernel_rfl) rfl #[.agg #[.slice A0_0 l0_0.length c0_0, .slice A0_1 l0_1.length c0_1, .slice A0_2 l0_2.length c0_2, .slice A0_3 l0_3.length c0_3, .int .i64 a0_4]] rfl (by (try simp only [List.map_toArray, List.map_cons, List.map_nil]); first | done | rfl | (simp only [List.length_drop, List.length_take]; rfl)) ?_; (with_reducible refine (laws_toYard.calls k _ _ l0_0 _ _ l0_1 _ _ l0_2 _ _ l0_3 a0_4 t1174 t1177 t1180 t1183 t1186 _ ?side1 ?side2 ?side3 ?side4 ?side5 ?side6 ?side7 ?side8 A9.out).mono ?_); (case side1 => exact Kd.C_below HR0_0.out (by repeat (first | (with_reducible first | exact HB.out | apply below_alloc | apply pw_below_drewN | apply below_drew1 | refine below_set ?_ GE1153.out | refine below_set ?_ GE1173.out) | exact HB.out))); (case side2 => exact HC0_0.out); (case side3 => exact Kd.C_below HR0_1.out (by repeat (first | (with_reducible first | exact HB.out | apply below_alloc | apply pw_below_drewN | apply below_drew1 | refine below_set ?_ GE1153.out | refine below_set ?_ GE1173.out) | exact HB.out))); (case side4 => exact HC0_1.out); (case side5 => exact Kd.C_below HR0_2.out (by repeat (first | (with_reducible first | exact HB.out | apply below_alloc | apply pw_below_drewN | apply below_drew1 | refine below_set ?_ GE1153.out | refine below_set ?_ GE1173.out) | exact HB.out))); (case side6 => exact HC0_2.out); (case side7 => exact Kd.C_below HR0_3.out (by repeat (first | (with_reducible first | exact HB.out | apply below_alloc | apply pw_below_drewN | apply below_drew1 | refine below_set ?_ GE1153.out | refine below_set ?_ GE1173.out) | exact HB.out))); (case side8 => exact HC0_3.out); rintro e w26 ⟨v1175, v1178, v1181, v1184, rfl, ho0, ho1, ho2, ho3, hb⟩; refine ⟨_, rfl, ?_⟩; have n0_ := Aside0.mk (Kd.R_elder' ((Kd.R_mono (Kd.R_far (Kd.R_far (Kd.R_far (Kd.R_far (Kd.R_types HO1157.out BK1173.out (by decide)) (fun _ hk => hk.2) _) (fun _ hk => hk.2) _) (fun _ hk => hk.2) _) (fun _ hk => hk.2) _) (fun _ h_ => h_.1))) (Kd.R_base ho0) hb); have n1_ := Aside0.mk (Kd.R_mono (Kd.R_told (Kd.R_told (Kd.R_old ((Kd.R_mono (Kd.R_far (Kd.R_far (Kd.R_far (Kd.R_far (Kd.R_types HO1160.out BK1173.out (by decide)) (fun _ hk => hk.2) _) (fun _ hk => hk.2) _) (fun _ hk => hk.2) _) (fun _ hk => hk.2) _) (fun _ h_ => h_.1))) hb) (Kd.R_base ho1)) (Kd.R_base ho2)) (fun _ h_ => h_.1)); have n2_ := Aside0.mk (Kd.R_mono (Kd.R_told (Kd.R_told (Kd.R_old ((Kd.R_mono (Kd.R_far (Kd.R_far (Kd.R_far (Kd.R_far (Kd.R_types HO1163.out BK1173.out (by decide)) (fun _ hk => hk.2) _) (fun _ hk => hk.2) _) (fun _ hk => hk.2) _) (fun _ hk => hk.2) _) (fun _ h_ => h_.1))) hb) (Kd.R_base ho1)) (Kd.R_base ho2)) (fun _ h_ => h_.1)); have n3_ := Aside0.mk (Kd.R_elder' ((Kd.R_mono (Kd.R_far (Kd.R_far (Kd.R_far (Kd.R_far (Kd.R_types HO1166.out BK1173.out (by decide)) (fun _ hk => hk.2) _) (fun _ hk => hk.2) _) (fun _ hk => hk.2) _) (fun _ hk => hk.2) _) (fun _ h_ => h_.1))) (Kd.R_base ho3) hb); have n4_ := Aside0.mk (Kd.R_lower (Kd.R_new' ho0 (Kd.R_lt ((Kd.R_mono (Kd.R_far (Kd.R_far (Kd.R_far (Kd.R_far (Kd.R_types HO1157.out BK1173.out (by decide)) (fun _ hk => hk.2) _) (fun _ hk => hk.2) _) (fun _ hk => hk.2) _) (fun _ hk => hk.2) _) (fun _ h_ => h_.1))))) (below_size (by repeat (first | (with_reducible first | exact HB.out | apply below_alloc | apply pw_below_drewN | apply below_drew1 | refine below_set ?_ GE1153.out | refine below_set ?_ GE1173.out) | exact HB.out)))); have n5_ := Aside0.mk (Kd.R_lower (Kd.R_new' (Kd.R_new' ho1 (Kd.R_lt ((Kd.R_mono (Kd.R_far (Kd.R_far (Kd.R_far (Kd.R_far (Kd.R_types HO1160.out BK1173.out (by decide)) (fun _ hk => hk.2) _) (fun _ hk => hk.2) _) (fun _ hk => hk.2) _) (fun _ hk => hk.2) _) (fun _ h_ => h_.1))))) (Kd.R_lt ((Kd.R_mono (Kd.R_far (Kd.R_far (Kd.R_far (Kd.R_far (Kd.R_types HO1163.out BK1173.out (by decide)) (fun _ hk => hk.2) _) (fun _ hk => hk.2) _) (fun _ hk => hk.2) _) (fun _ hk => hk.2) _) (fun _ h_ => h_.1))))) (below_size (by repeat (first | (with_reducible first | exact HB.out | apply below_alloc | apply pw_below_drewN | apply below_drew1 | refine below_set ?_ GE1153.out | refine below_set ?_ GE1173.out) | exact HB.out)))); have n6_ := Aside0.mk (Kd.R_lower (Kd.R_new' (Kd.R_new' ho2 (Kd.R_lt ((Kd.R_mono (Kd.R_far (Kd.R_far (Kd.R_far (Kd.R_far (Kd.R_types HO1160.out BK1173.out (by decide)) (fun _ hk => hk.2) _) (fun _ hk => hk.2) _) (fun _ hk => hk.2) _) (fun _ hk => hk.2) _) (fun _ h_ => h_.1))))) (Kd.R_lt ((Kd.R_mono (Kd.R_far (Kd.R_far (Kd.R_far (Kd.R_far (Kd.R_types HO1163.out BK1173.out (by decide)) (fun _ hk => hk.2) _) (fun _ hk => hk.2) _) (fun _ hk => hk.2) _) (fun _ hk => hk.2) _) (fun _ h_ => h_.1))))) (below_size (by repeat (first | (with_reducible first | exact HB.out | apply below_alloc | apply pw_below_drewN | apply below_drew1 | refine below_set ?_ GE1153.out | refine below_set ?_ GE1173.out) | exact HB.out)))); have n7_ := Aside0.mk (Kd.R_lower (Kd.R_new' ho3 (Kd.R_lt ((Kd.R_mono (Kd.R_far (Kd.R_far (Kd.R_far (Kd.R_far (Kd.R_types HO1166.out BK1173.out (by decide)) (fun _ hk => hk.2) _) (fun _ hk => hk.2) _) (fun _ hk => hk.2) _) (fun _ hk => hk.2) _) (fun _ h_ => h_.1))))) (below_size (by repeat (first | (with_reducible first | exact HB.out | apply below_alloc | apply pw_below_drewN | apply below_drew1 | refine below_set ?_ GE1153.out | refine below_set ?_ GE1173.out) | exact HB.out)))); have n8_ := Aside0.mk (blk_below (g := gb1153) (o := .cells #[.slice A0_0 l0_0.length c0_0, .slice A0_1 l0_1.length c0_1, .slice A0_2 l0_2.length c0_2, .slice A0_3 l0_3.length c0_3, .int .i64 a0_4] 56 (0, 0)) (by (with_reducible repeat (first | refine blk_drewN ?_ _ | refine blk_drew ?_ | refine blk_alloc ?_ _)); refine blk_far ?_ NB1153_1173.out _; (with_reducible repeat (first | refine blk_drewN ?_ _ | refine blk_drew ?_ | refine blk_alloc ?_ _)); refine blk_far ?_ NB1153_1173.out _; (with_reducible repeat (first | refine blk_drewN ?_ _ | refine blk_drew ?_ | refine blk_alloc ?_ _)); refine blk_far ?_ NB1153_1173.out _; (with_reducible repeat (first | refine blk_drewN ?_ _ | refine blk_drew ?_ | refine blk_alloc ?_ _)); refine blk_far ?_ NB1153_1173.out _; (with_reducible repeat (first | refine blk_drewN ?_ _ | refine blk_drew ?_ | refine blk_alloc ?_ _)); exact BK1153.out) hb); have n9_ := Aside0.mk (blk_below (g := gb1173) (o := .cells #[.int .i64 t1168, .int .i64 t1169, .int .i64 t1170, .int .i64 t1171] 32 (0, 0)) (by (with_reducible repeat (first | refine blk_drewN ?_ _ | refine blk_drew ?_ | refine blk_alloc ?_ _)); refine blk_put (cs := #[.int .i64 t1168, .int .i64 t1169, .int .i64 t1170, .int .i64 0]) ?_ 3 _ rfl; (with_reducible repeat (first | refine blk_drewN ?_ _ | refine blk_drew ?_ | refine blk_alloc ?_ _)); refine blk_put (cs := #[.int .i64 t1168, .int .i64 t1169, .int .i64 0, .int .i64 0]) ?_ 2 _ rfl; (with_reducible repeat (first | refine blk_drewN ?_ _ | refine blk_drew ?_ | refine blk_alloc ?_ _)); refine blk_put (cs := #[.int .i64 t1168, .int .i64 0, .int .i64 0, .int .i64 0]) ?_ 1 _ rfl; (with_reducible repeat (first | refine blk_drewN ?_ _ | refine blk_drew ?_ | refine blk_alloc ?_ _)); refine blk_put (cs := #[.int .i64 0, .int .i64 0, .int .i64 0, .int .i64 0]) ?_ 0 _ rfl; (with_reducible repeat (first | refine blk_drewN ?_ _ | refine blk_drew ?_ | refine blk_alloc ?_ _)); exact BK1173.out) hb); have n10_ := Aside0.mk (below_step (by repeat (first | (with_reducible first | exact HB.out | apply below_alloc | apply pw_below_drewN | apply below_drew1 | refine below_set ?_ GE1153.out | refine below_set ?_ GE1173.out) | exact HB.out)) hb); replace HO1157 := n0_; replace HO1160 := n1_; replace HO1163 := n2_; replace HO1166 := n3_; have HO1176 := n4_; have HO1179 := n5_; have HO1182 := n6_; have HO1185 := n7_; replace BK1153 := n8_; replace BK1173 := n9_; replace HB := n10_; clear n0_ n1_ n2_ n3_ n4_ n5_ n6_ n7_ n8_ n9_ n10_; (try clear hb); (try clear hb2); (try clear hk); (try clear hi); (try clear ho0); (try clear ho1); (try clear ho2); (try clear ho3)) | ((with_reducible refine gate_dst (N := 6) rfl ?_); refine box_event ?hg (N := 6) ?hd (cs := #[.slice none 0 0, .slice none 0 0, .slice none 0 0, .slice none 0 0, .int .i64 0]) (t := 30) ?hr ?_; (case hd => rfl); (case hg => rfl); (case hr => first | (go_simp; done) | (go_simp; rfl)); intro gb1187 hg w27 hbox hb; have n0_ := Aside0.mk (Kd.R_below HO1157.out hb); have n1_ := Aside0.mk (Kd.R_below HO1160.out hb); have n2_ := Aside0.mk (Kd.R_below HO1163.out hb); have n3_ := Aside0.mk (Kd.R_below HO1166.out hb); have n4_ := Aside0.mk (Kd.R_below HO1176.out hb); have n5_ := Aside0.mk (Kd.R_below HO1179.out hb); have n6_ := Aside0.mk (Kd.R_below HO1182.out hb); have n7_ := Aside0.mk (Kd.R_below HO1185.out hb); have n8_ := Aside0.mk (blk_below (g := gb1153) (o := .cells #[.slice A0_0 l0_0.length c0_0, .slice A0_1 l0_1.length c0_1, .slice A0_2 l0_2.length c0_2, .slice A0_3 l0_3.length c0_3, .int .i64 a0_4] 56 (0, 0)) BK1153.out hb); have n9_ := Aside0.mk (blk_below (g := gb1173) (o := .cells #[.int .i64 t1168, .int .i64 t1169, .int .i64 t1170, .int .i64 t1171] 32 (0, 0)) BK1173.out hb); have n10_ := Aside0.mk (below_step (by repeat (first | (with_reducible first | exact HB.out | apply below_alloc | apply pw_below_drewN | apply below_drew1 | refine below_set ?_ GE1153.out | refine below_set ?_ GE1173.out) | exact HB.out)) hb); have n11_ := Aside0.mk (hbox); have n12_ := Aside0.mk ((by rw [hg]; exact (below_size (by repeat (first | (with_reducible first | exact HB.out | apply below_alloc | apply pw_below_drewN | apply below_drew1 | refine below_set ?_ GE1153.out | refine below_set ?_ GE1173.out) | exact HB.out))) : w.heap.size ≤ gb1187)); have n13_ := n12_; have n14_ := Aside0.mk ((by rw [hg]; exact Nat.ne_of_lt (blk_lt (g := gb1153) (o := .cells #[.slice A0_0 l0_0.length c0_0, .slice A0_1 l0_1.length c0_1, .slice A0_2 l0_2.length c0_2, .slice A0_3 l0_3.length c0_3, .int .i64 a0_4] 56 (0, 0)) BK1153.out) : gb1153 ≠ gb1187)); have n15_ := Aside0.mk ((by rw [hg]; exact Nat.ne_of_gt (blk_lt (g := gb1153) (o := .cells #[.slice A0_0 l0_0.length c0_0, .slice A0_1 l0_1.length c0_1, .slice A0_2 l0_2.length c0_2, .slice A0_3 l0_3.length c0_3, .int .i64 a0_4] 56 (0, 0)) BK1153.out) : gb1187 ≠ gb1153)); have n16_ := Aside0.mk ((by rw [hg]; exact Nat.ne_of_lt (blk_lt (g := gb1173) (o := .cells #[.int .i64 t1168, .int .i64 t1169, .int .i64 t1170, .int .i64 t1171] 32 (0, 0)) BK1173.out) : gb1173 ≠ gb1187)); have n17_ := Aside0.mk ((by rw [hg]; exact Nat.ne_of_gt (blk_lt (g := gb1173) (o := .cells #[.int .i64 t1168, .int .i64 t1169, .int .i64 t1170, .int .i64 t1171] 32 (0, 0)) BK1173.out) : gb1187 ≠ gb1173)); replace HO1157 := n0_; replace HO1160 := n1_; replace HO1163 := n2_; replace HO1166 := n3_; replace HO1176 := n4_; replace HO1179 := n5_; replace HO1182 := n6_; replace HO1185 := n7_; replace BK1153 := n8_; replace BK1173 := n9_; replace HB := n10_; have BK1187 := n11_; have GW1187 := n12_; have GE1187 := n13_; have NB1153_1187 := n14_; have NB1187_1153 := n15_; have NB1173_1187 := n16_; have NB1187_1173 := n17_; clear n0_ n1_ n2_ n3_ n4_ n5_ n6_ n7_ n8_ n9_ n10_ n11_ n12_ n13_ n14_ n15_ n16_ n17_; clear hb hbox hg; obtain ⟨Ao28, co28, eo28⟩ := Kd.R_slice HO1176.out; subst eo28; have hnb29 := NB1187_1153.out; have hnc29 := NB1153_1187.out; have hnb30 := NB1187_1173.out; have hnc30 := NB1173_1187.out; obtain ⟨hcz31_0, hcz31_1, hcz31_2, hcz31_3, hcz31_4, hfz31_0, hfz31_1, hfz31_2, hfz31_3, hfz31_4⟩ := cs5_ BK1187.out; obtain ⟨Ao32, co32, eo32⟩ := Kd.R_slice HO1179.out; subst eo32; obtain ⟨Ao33, co33, eo33⟩ := Kd.R_slice HO1182.out; subst eo33; obtain ⟨Ao34, co34, eo34⟩ := Kd.R_slice HO1185.out; subst eo34) | ((with_reducible refine gate_callee (f := 15) rfl ?_); refine goesL_ (some 24) rfl rfl Try.func15 (by kernel_rfl) rfl #[.agg #[.slice Ao28 t1174.length co28, .slice Ao32 t1177.length co32, .slice Ao33 t1180.length co33, .slice Ao34 t1183.length co34, .int .i64 t1186]] rfl (by (try simp only [List.map_toArray, List.map_cons, List.map_nil]); first | done | rfl | (simp only [List.length_drop, List.length_take]; rfl)) ?_; (with_reducible refine (impl_Counts.calls k _ _ t1174 _ _ t1177 _ _ t1180 _ _ t1183 t1186 t1188 t1189 t1190 t1191 t1192 _ ?side1 ?side2 ?side3 ?side4 ?side5 ?side6 ?side7 ?side8 A10.out).mono ?_); (case side1 => refine (Kd.R_reads' (e := 77) (base := w.heap.size) (ok := fun k_ => (True ∧ some k_ ≠ (.slice Ao17 t1155.length co17 : Value).ownBlock)) (n := t1174.length) (c := co28) ?_).2.2; exact (by (with_reducible repeat (first | apply Kd.R_alloc | apply Kd.R_drewN | apply Kd.R_drew)); exact (Kd.R_mono (Kd.R_far (Kd.R_far (Kd.R_far (Kd.R_far (Kd.R_far (Kd.R_types HO1176.out BK1187.out (by decide)) (fun _ hk => hk.2) _) (fun _ hk => hk.2) _) (fun _ hk => hk.2) _) (fun _ hk => hk.2) _) (fun _ hk => hk.2) _) (fun _ h_ => h_.1)))); (case side2 => exact (Kd.R_reads' HO1176.out).2.1); (case side3 => refine (Kd.R_reads' (e := 3) (base := w.heap.size) (ok := fun k_ => ((some k_ ≠ (.slice Ao33 t1180.length co33 : Value).ownBlock ∧ some k_ ≠ (.slice Ao18 t1158.length co18 : Value).ownBlock) ∧ some k_ ≠ (.slice Ao19 t1161.length co19 : Value).ownBlock)) (n := t1177.length) (c := co32) ?_).2.2; exact (by (with_reducible repeat (first | apply Kd.R_alloc | apply Kd.R_drewN | apply Kd.R_drew)); exact (Kd.R_mono (Kd.R_far (Kd.R_far (Kd.R_far (Kd.R_far (Kd.R_far (Kd.R_types HO1179.out BK1187.out (by decide)) (fun _ hk => hk.2) _) (fun _ hk => hk.2) _) (fun _ hk => hk.2) _) (fun _ hk => hk.2) _) (fun _ hk => hk.2) _) (fun _ h_ => h_.1)))); (case side4 => exact (Kd.R_reads' HO1179.out).2.1); (case side5 => refine (Kd.R_reads' (e := 3) (base := w.heap.size) (ok := fun k_ => ((some k_ ≠ (.slice Ao32 t1177.length co32 : Value).ownBlock ∧ some k_ ≠ (.slice Ao18 t1158.length co18 : Value).ownBlock) ∧ some k_ ≠ (.slice Ao19 t1161.length co19 : Value).ownBlock)) (n := t1180.length) (c := co33) ?_).2.2; exact (by (with_reducible repeat (first | apply Kd.R_alloc | apply Kd.R_drewN | apply Kd.R_drew)); exact (Kd.R_mono (Kd.R_far (Kd.R_far (Kd.R_far (Kd.R_far (Kd.R_far (Kd.R_types HO1182.out BK1187.out (by decide)) (fun _ hk => hk.2) _) (fun _ hk => hk.2) _) (fun _ hk => hk.2) _) (fun _ hk => hk.2) _) (fun _ hk => hk.2) _) (fun _ h_ => h_.1)))); (case side6 => exact (Kd.R_reads' HO1182.out).2.1); (case side7 => refine (Kd.R_reads' (e := 41) (base := w.heap.size) (ok := fun k_ => (True ∧ some k_ ≠ (.slice Ao20 t1164.length co20 : Value).ownBlock)) (n := t1183.length) (c := co34) ?_).2.2; exact (by (with_reducible repeat (first | apply Kd.R_alloc | apply Kd.R_drewN | apply Kd.R_drew)); exact (Kd.R_mono (Kd.R_far (Kd.R_far (Kd.R_far (Kd.R_far (Kd.R_far (Kd.R_types HO1185.out BK1187.out (by decide)) (fun _ hk => hk.2) _) (fun _ hk => hk.2) _) (fun _ hk => hk.2) _) (fun _ hk => hk.2) _) (fun _ hk => hk.2) _) (fun _ h_ => h_.1)))); (case side8 => exact (Kd.R_reads' HO1185.out).2.1); rintro e w35 ⟨rfl, hb⟩; refine ⟨_, rfl, ?_⟩; have n0_ := Aside0.mk (Kd.R_below (by (with_reducible repeat (first | apply Kd.R_alloc | apply Kd.R_drewN | apply Kd.R_drew)); exact (Kd.R_mono (Kd.R_far (Kd.R_far (Kd.R_far (Kd.R_far (Kd.R_far (Kd.R_types HO1157.out BK1187.out (by decide)) (fun _ hk => hk.2) _) (fun _ hk => hk.2) _) (fun _ hk => hk.2) _) (fun _ hk => hk.2) _) (fun _ hk => hk.2) _) (fun _ h_ => h_.1))) hb); have n1_ := Aside0.mk (Kd.R_below (by (with_reducible repeat (first | apply Kd.R_alloc | apply Kd.R_drewN | apply Kd.R_drew)); exact (Kd.R_mono (Kd.R_far (Kd.R_far (Kd.R_far (Kd.R_far (Kd.R_far (Kd.R_types HO1160.out BK1187.out (by decide)) (fun _ hk => hk.2) _) (fun _ hk => hk.2) _) (fun _ hk => hk.2) _) (fun _ hk => hk.2) _) (fun _ hk => hk.2) _) (fun _ h_ => h_.1))) hb); have n2_ := Aside0.mk (Kd.R_below (by (with_reducible repeat (first | apply Kd.R_alloc | apply Kd.R_drewN | apply Kd.R_drew)); exact (Kd.R_mono (Kd.R_far (Kd.R_far (Kd.R_far (Kd.R_far (Kd.R_far (Kd.R_types HO1163.out BK1187.out (by decide)) (fun _ hk => hk.2) _) (fun _ hk => hk.2) _) (fun _ hk => hk.2) _) (fun _ hk => hk.2) _) (fun _ hk => hk.2) _) (fun _ h_ => h_.1))) hb); have n3_ := Aside0.mk (Kd.R_below (by (with_reducible repeat (first | apply Kd.R_alloc | apply Kd.R_drewN | apply Kd.R_drew)); exact (Kd.R_mono (Kd.R_far (Kd.R_far (Kd.R_far (Kd.R_far (Kd.R_far (Kd.R_types HO1166.out BK1187.out (by decide)) (fun _ hk => hk.2) _) (fun _ hk => hk.2) _) (fun _ hk => hk.2) _) (fun _ hk => hk.2) _) (fun _ hk => hk.2) _) (fun _ h_ => h_.1))) hb); have n4_ := Aside0.mk (Kd.R_below (by (with_reducible repeat (first | apply Kd.R_alloc | apply Kd.R_drewN | apply Kd.R_drew)); exact (Kd.R_mono (Kd.R_far (Kd.R_far (Kd.R_far (Kd.R_far (Kd.R_far (Kd.R_types HO1176.out BK1187.out (by decide)) (fun _ hk => hk.2) _) (fun _ hk => hk.2) _) (fun _ hk => hk.2) _) (fun _ hk => hk.2) _) (fun _ hk => hk.2) _) (fun _ h_ => h_.1))) hb); have n5_ := Aside0.mk (Kd.R_below (by (with_reducible repeat (first | apply Kd.R_alloc | apply Kd.R_drewN | apply Kd.R_drew)); exact (Kd.R_mono (Kd.R_far (Kd.R_far (Kd.R_far (Kd.R_far (Kd.R_far (Kd.R_types HO1179.out BK1187.out (by decide)) (fun _ hk => hk.2) _) (fun _ hk => hk.2) _) (fun _ hk => hk.2) _) (fun _ hk => hk.2) _) (fun _ hk => hk.2) _) (fun _ h_ => h_.1))) hb); have n6_ := Aside0.mk (Kd.R_below (by (with_reducible repeat (first | apply Kd.R_alloc | apply Kd.R_drewN | apply Kd.R_drew)); exact (Kd.R_mono (Kd.R_far (Kd.R_far (Kd.R_far (Kd.R_far (Kd.R_far (Kd.R_types HO1182.out BK1187.out (by decide)) (fun _ hk => hk.2) _) (fun _ hk => hk.2) _) (fun _ hk => hk.2) _) (fun _ hk => hk.2) _) (fun _ hk => hk.2) _) (fun _ h_ => h_.1))) hb); have n7_ := Aside0.mk (Kd.R_below (by (with_reducible repeat (first | apply Kd.R_alloc | apply Kd.R_drewN | apply Kd.R_drew)); exact (Kd.R_mono (Kd.R_far (Kd.R_far (Kd.R_far (Kd.R_far (Kd.R_far (Kd.R_types HO1185.out BK1187.out (by decide)) (fun _ hk => hk.2) _) (fun _ hk => hk.2) _) (fun _ hk => hk.2) _) (fun _ hk => hk.2) _) (fun _ hk => hk.2) _) (fun _ h_ => h_.1))) hb); have n8_ := Aside0.mk (blk_below (g := gb1153) (o := .cells #[.slice A0_0 l0_0.length c0_0, .slice A0_1 l0_1.length c0_1, .slice A0_2 l0_2.length c0_2, .slice A0_3 l0_3.length c0_3, .int .i64 a0_4] 56 (0, 0)) (by (with_reducible repeat (first | refine blk_drewN ?_ _ | refine blk_drew ?_ | refine blk_alloc ?_ _)); refine blk_far ?_ NB1153_1187.out _; (with_reducible repeat (first | refine blk_drewN ?_ _ | refine blk_drew ?_ | refine blk_alloc ?_ _)); refine blk_far ?_ NB1153_1187.out _; (with_reducible repeat (first | refine blk_drewN ?_ _ | refine blk_drew ?_ | refine blk_alloc ?_ _)); refine blk_far ?_ NB1153_1187.out _; (with_reducible repeat (first | refine blk_drewN ?_ _ | refine blk_drew ?_ | refine blk_alloc ?_ _)); refine blk_far ?_ NB1153_1187.out _; (with_reducible repeat (first | refine blk_drewN ?_ _ | refine blk_drew ?_ | refine blk_alloc ?_ _)); refine blk_far ?_ NB1153_1187.out _; (with_reducible repeat (first | refine blk_drewN ?_ _ | refine blk_drew ?_ | refine blk_alloc ?_ _)); exact BK1153.out) hb); have n9_ := Aside0.mk (blk_below (g := gb1173) (o := .cells #[.int .i64 t1168, .int .i64 t1169, .int .i64 t1170, .int .i64 t1171] 32 (0, 0)) (by (with_reducible repeat (first | refine blk_drewN ?_ _ | refine blk_drew ?_ | refine blk_alloc ?_ _)); refine blk_far ?_ NB1173_1187.out _; (with_reducible repeat (first | refine blk_drewN ?_ _ | refine blk_drew ?_ | refine blk_alloc ?_ _)); refine blk_far ?_ NB1173_1187.out _; (with_reducible repeat (first | refine blk_drewN ?_ _ | refine blk_drew ?_ | refine blk_alloc ?_ _)); refine blk_far ?_ NB1173_1187.out _; (with_reducible repeat (first | refine blk_drewN ?_ _ | refine blk_drew ?_ | refine blk_alloc ?_ _)); refine blk_far ?_ NB1173_1187.out _; (with_reducible repeat (first | refine blk_drewN ?_ _ | refine blk_drew ?_ | refine blk_alloc ?_ _)); refine blk_far ?_ NB1173_1187.out _; (with_reducible repeat (first | refine blk_drewN ?_ _ | refine blk_drew ?_ | refine blk_alloc ?_ _)); exact BK1173.out) hb); have n10_ := Aside0.mk (blk_below (g := gb1187) (o := .cells #[.slice Ao28 t1174.length co28, .slice Ao32 t1177.length co32, .slice Ao33 t1180.length co33, .slice Ao34 t1183.length co34, .int .i64 t1186] 30 (0, 0)) (by (with_reducible repeat (first | refine blk_drewN ?_ _ | refine blk_drew ?_ | refine blk_alloc ?_ _)); refine blk_put (cs := #[.slice Ao28 t1174.length co28, .slice Ao32 t1177.length co32, .slice Ao33 t1180.length co33, .slice Ao34 t1183.length co34, .int .i64 0]) ?_ 4 _ rfl; (with_reducible repeat (first | refine blk_drewN ?_ _ | refine blk_drew ?_ | refine blk_alloc ?_ _)); refine blk_put (cs := #[.slice Ao28 t1174.length co28, .slice Ao32 t1177.length co32, .slice Ao33 t1180.length co33, .slice none 0 0, .int .i64 0]) ?_ 3 _ rfl; (with_reducible repeat (first | refine blk_drewN ?_ _ | refine blk_drew ?_ | refine blk_alloc ?_ _)); refine blk_put (cs := #[.slice Ao28 t1174.length co28, .slice Ao32 t1177.length co32, .slice none 0 0, .slice none 0 0, .int .i64 0]) ?_ 2 _ rfl; (with_reducible repeat (first | refine blk_drewN ?_ _ | refine blk_drew ?_ | refine blk_alloc ?_ _)); refine blk_put (cs := #[.slice Ao28 t1174.length co28, .slice none 0 0, .slice none 0 0, .slice none 0 0, .int .i64 0]) ?_ 1 _ rfl; (with_reducible repeat (first | refine blk_drewN ?_ _ | refine blk_drew ?_ | refine blk_alloc ?_ _)); refine blk_put (cs := #[.slice none 0 0, .slice none 0 0, .slice none 0 0, .slice none 0 0, .int .i64 0]) ?_ 0 _ rfl; (with_reducible repeat (first | refine blk_drewN ?_ _ | refine blk_drew ?_ | refine blk_alloc ?_ _)); exact BK1187.out) hb); have n11_ := Aside0.mk (below_step (by repeat (first | (with_reducible first | exact HB.out | apply below_alloc | apply pw_below_drewN | apply below_drew1 | refine below_set ?_ GE1153.out | refine below_set ?_ GE1173.out | refine below_set ?_ GE1187.out) | exact HB.out)) hb); replace HO1157 := n0_; replace HO1160 := n1_; replace HO1163 := n2_; replace HO1166 := n3_; replace HO1176 := n4_; replace HO1179 := n5_; replace HO1182 := n6_; replace HO1185 := n7_; replace BK1153 := n8_; replace BK1173 := n9_; replace BK1187 := n10_; replace HB := n11_; clear n0_ n1_ n2_ n3_ n4_ n5_ n6_ n7_ n8_ n9_ n10_ n11_; (try clear hb); (try clear hb2); (try clear hk); (try clear hi)) | ((with_reducible refine gate_dst (N := 7) rfl ?_); refine box_event ?hg (N := 7) ?hd (cs := #[.int .i64 0, .int .i64 0, .int .i64 0, .int .i64 0]) (t := 32) ?hr ?_; (case hd => rfl); (case hg => rfl); (case hr => first | (go_simp; done) | (go_simp; rfl)); intro gb1193 hg w36 hbox hb; have n0_ := Aside0.mk (Kd.R_below HO1157.out hb); have n1_ := Aside0.mk (Kd.R_below HO1160.out hb); have n2_ := Aside0.mk (Kd.R_below HO1163.out hb); have n3_ := Aside0.mk (Kd.R_below HO1166.out hb); have n4_ := Aside0.mk (Kd.R_below HO1176.out hb); have n5_ := Aside0.mk (Kd.R_below HO1179.out hb); have n6_ := Aside0.mk (Kd.R_below HO1182.out hb); have n7_ := Aside0.mk (Kd.R_below HO1185.out hb); have n8_ := Aside0.mk (blk_below (g := gb1153) (o := .cells #[.slice A0_0 l0_0.length c0_0, .slice A0_1 l0_1.length c0_1, .slice A0_2 l0_2.length c0_2, .slice A0_3 l0_3.length c0_3, .int .i64 a0_4] 56 (0, 0)) BK1153.out hb); have n9_ := Aside0.mk (blk_below (g := gb1173) (o := .cells #[.int .i64 t1168, .int .i64 t1169, .int .i64 t1170, .int .i64 t1171] 32 (0, 0)) BK1173.out hb); have n10_ := Aside0.mk (blk_below (g := gb1187) (o := .cells #[.slice Ao28 t1174.length co28, .slice Ao32 t1177.length co32, .slice Ao33 t1180.length co33, .slice Ao34 t1183.length co34, .int .i64 t1186] 30 (0, 0)) BK1187.out hb); have n11_ := Aside0.mk (below_step (by repeat (first | (with_reducible first | exact HB.out | apply below_alloc | apply pw_below_drewN | apply below_drew1 | refine below_set ?_ GE1153.out | refine below_set ?_ GE1173.out | refine below_set ?_ GE1187.out) | exact HB.out)) hb); have n12_ := Aside0.mk (hbox); have n13_ := Aside0.mk ((by rw [hg]; exact (below_size (by repeat (first | (with_reducible first | exact HB.out | apply below_alloc | apply pw_below_drewN | apply below_drew1 | refine below_set ?_ GE1153.out | refine below_set ?_ GE1173.out | refine below_set ?_ GE1187.out) | exact HB.out))) : w.heap.size ≤ gb1193)); have n14_ := n13_; have n15_ := Aside0.mk ((by rw [hg]; exact Nat.ne_of_lt (blk_lt (g := gb1153) (o := .cells #[.slice A0_0 l0_0.length c0_0, .slice A0_1 l0_1.length c0_1, .slice A0_2 l0_2.length c0_2, .slice A0_3 l0_3.length c0_3, .int .i64 a0_4] 56 (0, 0)) BK1153.out) : gb1153 ≠ gb1193)); have n16_ := Aside0.mk ((by rw [hg]; exact Nat.ne_of_gt (blk_lt (g := gb1153) (o := .cells #[.slice A0_0 l0_0.length c0_0, .slice A0_1 l0_1.length c0_1, .slice A0_2 l0_2.length c0_2, .slice A0_3 l0_3.length c0_3, .int .i64 a0_4] 56 (0, 0)) BK1153.out) : gb1193 ≠ gb1153)); have n17_ := Aside0.mk ((by rw [hg]; exact Nat.ne_of_lt (blk_lt (g := gb1173) (o := .cells #[.int .i64 t1168, .int .i64 t1169, .int .i64 t1170, .int .i64 t1171] 32 (0, 0)) BK1173.out) : gb1173 ≠ gb1193)); have n18_ := Aside0.mk ((by rw [hg]; exact Nat.ne_of_gt (blk_lt (g := gb1173) (o := .cells #[.int .i64 t1168, .int .i64 t1169, .int .i64 t1170, .int .i64 t1171] 32 (0, 0)) BK1173.out) : gb1193 ≠ gb1173)); have n19_ := Aside0.mk ((by rw [hg]; exact Nat.ne_of_lt (blk_lt (g := gb1187) (o := .cells #[.slice Ao28 t1174.length co28, .slice Ao32 t1177.length co32, .slice Ao33 t1180.length co33, .slice Ao34 t1183.length co34, .int .i64 t1186] 30 (0, 0)) BK1187.out) : gb1187 ≠ gb1193)); have n20_ := Aside0.mk ((by rw [hg]; exact Nat.ne_of_gt (blk_lt (g := gb1187) (o := .cells #[.slice Ao28 t1174.length co28, .slice Ao32 t1177.length co32, .slice Ao33 t1180.length co33, .slice Ao34 t1183.length co34, .int .i64 t1186] 30 (0, 0)) BK1187.out) : gb1193 ≠ gb1187)); replace HO1157 := n0_; replace HO1160 := n1_; replace HO1163 := n2_; replace HO1166 := n3_; replace HO1176 := n4_; replace HO1179 := n5_; replace HO1182 := n6_; replace HO1185 := n7_; replace BK1153 := n8_; replace BK1173 := n9_; replace BK1187 := n10_; replace HB := n11_; have BK1193 := n12_; have GW1193 := n13_; have GE1193 := n14_; have NB1153_1193 := n15_; have NB1193_1153 := n16_; have NB1173_1193 := n17_; have NB1193_1173 := n18_; have NB1187_1193 := n19_; have NB1193_1187 := n20_; clear n0_ n1_ n2_ n3_ n4_ n5_ n6_ n7_ n8_ n9_ n10_ n11_ n12_ n13_ n14_ n15_ n16_ n17_ n18_ n19_ n20_; clear hb hbox hg; have hnb37 := NB1193_1153.out; have hnc37 := NB1153_1193.out; have hnb38 := NB1193_1173.out; have hnc38 := NB1173_1193.out; have hnb39 := NB1193_1187.out; have hnc39 := NB1187_1193.out; obtain ⟨hcz40_0, hcz40_1, hcz40_2, hcz40_3, hfz40_0, hfz40_1, hfz40_2, hfz40_3⟩ := cs4_ BK1193.out))
  (try simp only [Act.put, sx_, sy_, sz_])
  go_cut [35] (fun v35 wc => ∃ (kq : Nat) (x35_10 : Bool), v35 = .bool x35_10 ∧ Aside0 (laws_FnExactCounts.j0 kq x35_10 l0_0 l0_1 l0_2 l0_3 a0_4 t1174 t1177 t1180 t1183 t1186 = some true) ∧ Aside0 (kq ≤ k) ∧ Aside0 (Kd.R k77 77 wc w.heap.size (fun _ => True) (.slice Ao28 t1174.length co28) t1174) ∧ Aside0 (Kd.R (Kd.int .i64) 3 wc w.heap.size (fun k_ => some k_ ≠ ((.slice Ao33 t1180.length co33) : Value).ownBlock) (.slice Ao32 t1177.length co32) t1177) ∧ Aside0 (Kd.R (Kd.int .i64) 3 wc w.heap.size (fun k_ => some k_ ≠ ((.slice Ao32 t1177.length co32) : Value).ownBlock) (.slice Ao33 t1180.length co33) t1180) ∧ Aside0 (Kd.R k41 41 wc w.heap.size (fun _ => True) (.slice Ao34 t1183.length co34) t1183) ∧ Aside0 (wc.heap[gb1153]? = some (.cells #[(.slice A0_0 l0_0.length c0_0), (.slice A0_1 l0_1.length c0_1), (.slice A0_2 l0_2.length c0_2), (.slice A0_3 l0_3.length c0_3), .int .i64 a0_4] 56 (0, 0))) ∧ Aside0 (wc.heap[gb1187]? = some (.cells #[(.slice Ao28 t1174.length co28), (.slice Ao32 t1177.length co32), (.slice Ao33 t1180.length co33), (.slice Ao34 t1183.length co34), .int .i64 t1186] 30 (0, 0))) ∧ Aside0 (Below w.heap.size w wc))
  case first =>
   have H := HC11.out
   clear HC11
   replace H := Option.bind_eq_some_iff.mp H
   obtain ⟨t1194, A410, H⟩ := H
   replace H : (if t1194 = true then (laws_FnExactCounts.j0 k (t1192 != t1172) l0_0 l0_1 l0_2 l0_3 a0_4 t1174 t1177 t1180 t1183 t1186) else (laws_FnExactCounts.j0 k true l0_0 l0_1 l0_2 l0_3 a0_4 t1174 t1177 t1180 t1183 t1186)) = some true := H
   have A41 := Aside0.mk A410
   clear A410
   by_cases c42 : t1194 = true
   ·subst c42
    have H1 : (laws_FnExactCounts.j0 k (t1192 != t1172) l0_0 l0_1 l0_2 l0_3 a0_4 t1174 t1177 t1180 t1183 t1186) = some true := by rw [if_pos rfl] at H; exact H
    clear H
    have H := H1
    clear H1
    have H' := Aside0.mk H
    clear H
    have hnb43 := NB1193_1153.out
    have hnc43 := NB1153_1193.out
    have hnb44 := NB1193_1173.out
    have hnc44 := NB1173_1193.out
    have hnb45 := NB1193_1187.out
    have hnc45 := NB1187_1193.out
    obtain ⟨hcz46_0, hcz46_1, hcz46_2, hcz46_3, hfz46_0, hfz46_1, hfz46_2, hfz46_3⟩ := cs4_ BK1193.out
    have hnb47 := NB1173_1153.out
    have hnc47 := NB1153_1173.out
    have hnb48 := NB1173_1187.out
    have hnc48 := NB1187_1173.out
    obtain ⟨hcz49_0, hcz49_1, hcz49_2, hcz49_3, hfz49_0, hfz49_1, hfz49_2, hfz49_3⟩ := cs4_ BK1173.out
    go_wp2_with (first | ((with_reducible refine gate_callee (f := 35) rfl ?_); refine goesL_ (some 29) rfl rfl Try.func35 (by kernel_rfl) rfl #[.agg #[.int .i64 t1188, .int .i64 t1189, .int .i64 t1190, .int .i64 t1191], .agg #[.int .i64 t1168, .int .i64 t1169, .int .i64 t1170, .int .i64 t1171]] rfl (by (try simp only [List.map_toArray, List.map_cons, List.map_nil]); first | done | rfl | (simp only [List.length_drop, List.length_take]; rfl)) ?_; (with_reducible refine (laws_eqIntA4.calls k t1188 t1189 t1190 t1191 t1168 t1169 t1170 t1171 true _ A41.out).mono ?_); rintro e w50 ⟨rfl, hb⟩; refine ⟨_, rfl, ?_⟩; have n0_ := Aside0.mk (Kd.R_below ((Kd.R_mono (Kd.R_far (Kd.R_far (Kd.R_far (Kd.R_far (Kd.R_types HO1157.out BK1193.out (by decide)) (fun _ hk => hk.2) _) (fun _ hk => hk.2) _) (fun _ hk => hk.2) _) (fun _ hk => hk.2) _) (fun _ h_ => h_.1))) hb); have n1_ := Aside0.mk (Kd.R_below ((Kd.R_mono (Kd.R_far (Kd.R_far (Kd.R_far (Kd.R_far (Kd.R_types HO1160.out BK1193.out (by decide)) (fun _ hk => hk.2) _) (fun _ hk => hk.2) _) (fun _ hk => hk.2) _) (fun _ hk => hk.2) _) (fun _ h_ => h_.1))) hb); have n2_ := Aside0.mk (Kd.R_below ((Kd.R_mono (Kd.R_far (Kd.R_far (Kd.R_far (Kd.R_far (Kd.R_types HO1163.out BK1193.out (by decide)) (fun _ hk => hk.2) _) (fun _ hk => hk.2) _) (fun _ hk => hk.2) _) (fun _ hk => hk.2) _) (fun _ h_ => h_.1))) hb); have n3_ := Aside0.mk (Kd.R_below ((Kd.R_mono (Kd.R_far (Kd.R_far (Kd.R_far (Kd.R_far (Kd.R_types HO1166.out BK1193.out (by decide)) (fun _ hk => hk.2) _) (fun _ hk => hk.2) _) (fun _ hk => hk.2) _) (fun _ hk => hk.2) _) (fun _ h_ => h_.1))) hb); have n4_ := Aside0.mk (Kd.R_below ((Kd.R_mono (Kd.R_far (Kd.R_far (Kd.R_far (Kd.R_far (Kd.R_types HO1176.out BK1193.out (by decide)) (fun _ hk => hk.2) _) (fun _ hk => hk.2) _) (fun _ hk => hk.2) _) (fun _ hk => hk.2) _) (fun _ h_ => h_.1))) hb); have n5_ := Aside0.mk (Kd.R_below ((Kd.R_mono (Kd.R_far (Kd.R_far (Kd.R_far (Kd.R_far (Kd.R_types HO1179.out BK1193.out (by decide)) (fun _ hk => hk.2) _) (fun _ hk => hk.2) _) (fun _ hk => hk.2) _) (fun _ hk => hk.2) _) (fun _ h_ => h_.1))) hb); have n6_ := Aside0.mk (Kd.R_below ((Kd.R_mono (Kd.R_far (Kd.R_far (Kd.R_far (Kd.R_far (Kd.R_types HO1182.out BK1193.out (by decide)) (fun _ hk => hk.2) _) (fun _ hk => hk.2) _) (fun _ hk => hk.2) _) (fun _ hk => hk.2) _) (fun _ h_ => h_.1))) hb); have n7_ := Aside0.mk (Kd.R_below ((Kd.R_mono (Kd.R_far (Kd.R_far (Kd.R_far (Kd.R_far (Kd.R_types HO1185.out BK1193.out (by decide)) (fun _ hk => hk.2) _) (fun _ hk => hk.2) _) (fun _ hk => hk.2) _) (fun _ hk => hk.2) _) (fun _ h_ => h_.1))) hb); have n8_ := Aside0.mk (blk_below (g := gb1153) (o := .cells #[.slice A0_0 l0_0.length c0_0, .slice A0_1 l0_1.length c0_1, .slice A0_2 l0_2.length c0_2, .slice A0_3 l0_3.length c0_3, .int .i64 a0_4] 56 (0, 0)) (by (with_reducible repeat (first | refine blk_drewN ?_ _ | refine blk_drew ?_ | refine blk_alloc ?_ _)); refine blk_far ?_ NB1153_1193.out _; (with_reducible repeat (first | refine blk_drewN ?_ _ | refine blk_drew ?_ | refine blk_alloc ?_ _)); refine blk_far ?_ NB1153_1193.out _; (with_reducible repeat (first | refine blk_drewN ?_ _ | refine blk_drew ?_ | refine blk_alloc ?_ _)); refine blk_far ?_ NB1153_1193.out _; (with_reducible repeat (first | refine blk_drewN ?_ _ | refine blk_drew ?_ | refine blk_alloc ?_ _)); refine blk_far ?_ NB1153_1193.out _; (with_reducible repeat (first | refine blk_drewN ?_ _ | refine blk_drew ?_ | refine blk_alloc ?_ _)); exact BK1153.out) hb); have n9_ := Aside0.mk (blk_below (g := gb1173) (o := .cells #[.int .i64 t1168, .int .i64 t1169, .int .i64 t1170, .int .i64 t1171] 32 (0, 0)) (by (with_reducible repeat (first | refine blk_drewN ?_ _ | refine blk_drew ?_ | refine blk_alloc ?_ _)); refine blk_far ?_ NB1173_1193.out _; (with_reducible repeat (first | refine blk_drewN ?_ _ | refine blk_drew ?_ | refine blk_alloc ?_ _)); refine blk_far ?_ NB1173_1193.out _; (with_reducible repeat (first | refine blk_drewN ?_ _ | refine blk_drew ?_ | refine blk_alloc ?_ _)); refine blk_far ?_ NB1173_1193.out _; (with_reducible repeat (first | refine blk_drewN ?_ _ | refine blk_drew ?_ | refine blk_alloc ?_ _)); refine blk_far ?_ NB1173_1193.out _; (with_reducible repeat (first | refine blk_drewN ?_ _ | refine blk_drew ?_ | refine blk_alloc ?_ _)); exact BK1173.out) hb); have n10_ := Aside0.mk (blk_below (g := gb1187) (o := .cells #[.slice Ao28 t1174.length co28, .slice Ao32 t1177.length co32, .slice Ao33 t1180.length co33, .slice Ao34 t1183.length co34, .int .i64 t1186] 30 (0, 0)) (by (with_reducible repeat (first | refine blk_drewN ?_ _ | refine blk_drew ?_ | refine blk_alloc ?_ _)); refine blk_far ?_ NB1187_1193.out _; (with_reducible repeat (first | refine blk_drewN ?_ _ | refine blk_drew ?_ | refine blk_alloc ?_ _)); refine blk_far ?_ NB1187_1193.out _; (with_reducible repeat (first | refine blk_drewN ?_ _ | refine blk_drew ?_ | refine blk_alloc ?_ _)); refine blk_far ?_ NB1187_1193.out _; (with_reducible repeat (first | refine blk_drewN ?_ _ | refine blk_drew ?_ | refine blk_alloc ?_ _)); refine blk_far ?_ NB1187_1193.out _; (with_reducible repeat (first | refine blk_drewN ?_ _ | refine blk_drew ?_ | refine blk_alloc ?_ _)); exact BK1187.out) hb); have n11_ := Aside0.mk (blk_below (g := gb1193) (o := .cells #[.int .i64 t1188, .int .i64 t1189, .int .i64 t1190, .int .i64 t1191] 32 (0, 0)) (by (with_reducible repeat (first | refine blk_drewN ?_ _ | refine blk_drew ?_ | refine blk_alloc ?_ _)); refine blk_put (cs := #[.int .i64 t1188, .int .i64 t1189, .int .i64 t1190, .int .i64 0]) ?_ 3 _ rfl; (with_reducible repeat (first | refine blk_drewN ?_ _ | refine blk_drew ?_ | refine blk_alloc ?_ _)); refine blk_put (cs := #[.int .i64 t1188, .int .i64 t1189, .int .i64 0, .int .i64 0]) ?_ 2 _ rfl; (with_reducible repeat (first | refine blk_drewN ?_ _ | refine blk_drew ?_ | refine blk_alloc ?_ _)); refine blk_put (cs := #[.int .i64 t1188, .int .i64 0, .int .i64 0, .int .i64 0]) ?_ 1 _ rfl; (with_reducible repeat (first | refine blk_drewN ?_ _ | refine blk_drew ?_ | refine blk_alloc ?_ _)); refine blk_put (cs := #[.int .i64 0, .int .i64 0, .int .i64 0, .int .i64 0]) ?_ 0 _ rfl; (with_reducible repeat (first | refine blk_drewN ?_ _ | refine blk_drew ?_ | refine blk_alloc ?_ _)); exact BK1193.out) hb); have n12_ := Aside0.mk (below_step (by repeat (first | (with_reducible first | exact HB.out | apply below_alloc | apply pw_below_drewN | apply below_drew1 | refine below_set ?_ GE1153.out | refine below_set ?_ GE1173.out | refine below_set ?_ GE1187.out | refine below_set ?_ GE1193.out) | exact HB.out)) hb); replace HO1157 := n0_; replace HO1160 := n1_; replace HO1163 := n2_; replace HO1166 := n3_; replace HO1176 := n4_; replace HO1179 := n5_; replace HO1182 := n6_; replace HO1185 := n7_; replace BK1153 := n8_; replace BK1173 := n9_; replace BK1187 := n10_; replace BK1193 := n11_; replace HB := n12_; clear n0_ n1_ n2_ n3_ n4_ n5_ n6_ n7_ n8_ n9_ n10_ n11_ n12_; (try clear hb); (try clear hb2); (try clear hk); (try clear hi)))
    go_meet
    case rel => exact ⟨_, ((t1192 != t1172)), (by first | rfl | (simp; done) | (simp [*]; done)), H', ⟨by first | omega | exact Nat.le_refl _⟩, ⟨by (with_reducible repeat (first | apply Kd.R_alloc | apply Kd.R_drewN | apply Kd.R_drew)); exact Kd.R_mono HO1176.out (fun _ hk => trivial)⟩, ⟨by (with_reducible repeat (first | apply Kd.R_alloc | apply Kd.R_drewN | apply Kd.R_drew)); exact Kd.R_mono HO1179.out (fun _ hk => hk.1.1)⟩, ⟨by (with_reducible repeat (first | apply Kd.R_alloc | apply Kd.R_drewN | apply Kd.R_drew)); exact Kd.R_mono HO1182.out (fun _ hk => hk.1.1)⟩, ⟨by (with_reducible repeat (first | apply Kd.R_alloc | apply Kd.R_drewN | apply Kd.R_drew)); exact Kd.R_mono HO1185.out (fun _ hk => trivial)⟩, ⟨BK1153.out⟩, ⟨BK1187.out⟩, ⟨by repeat (first | (with_reducible first | exact HB.out | apply below_alloc | apply pw_below_drewN | apply below_drew1 | refine below_set ?_ GE1153.out | refine below_set ?_ GE1173.out | refine below_set ?_ GE1187.out | refine below_set ?_ GE1193.out) | exact HB.out)⟩⟩
   ·replace c42 := Bool.eq_false_iff.mpr c42
    subst c42
    have H1 : (laws_FnExactCounts.j0 k true l0_0 l0_1 l0_2 l0_3 a0_4 t1174 t1177 t1180 t1183 t1186) = some true := by rw [if_neg (show ¬ (false = true) by decide)] at H; exact H
    clear H
    have H := H1
    clear H1
    exact absurd H (by cases k <;> first | (simp [laws_FnExactCounts.j0]; done) | ((repeat' split) <;> simp_all [laws_FnExactCounts.j0]))
  case rest =>
   clear HC11
   (try clear c1); (try clear c2); (try clear p2); (try clear c3); (try clear c3b0); (try clear c4); (try clear c8); (try clear c15); (try clear c23); (try clear c29); (try clear c30); (try clear c32); (try clear c34); (try clear c35); (try clear c37); (try clear c38); (try clear c39); (try clear c42); (try clear c43); (try clear c44); (try clear c45); (try clear c47); (try clear c48); (try clear hcz13_0 hcz13_1 hcz13_2 hcz13_3 hcz13_4); (try clear hcz15_0 hcz15_1 hcz15_2 hcz15_3 hcz15_4); (try clear hcz24_0 hcz24_1 hcz24_2 hcz24_3); (try clear hcz25_0 hcz25_1 hcz25_2 hcz25_3 hcz25_4); (try clear hcz31_0 hcz31_1 hcz31_2 hcz31_3 hcz31_4); (try clear hcz40_0 hcz40_1 hcz40_2 hcz40_3); (try clear hcz46_0 hcz46_1 hcz46_2 hcz46_3); (try clear hcz49_0 hcz49_1 hcz49_2 hcz49_3); (try clear hcz5_0 hcz5_1 hcz5_2 hcz5_3 hcz5_4); (try clear hfz13_0 hfz13_1 hfz13_2 hfz13_3 hfz13_4); (try clear hfz15_0 hfz15_1 hfz15_2 hfz15_3 hfz15_4); (try clear hfz24_0 hfz24_1 hfz24_2 hfz24_3); (try clear hfz25_0 hfz25_1 hfz25_2 hfz25_3 hfz25_4); (try clear hfz31_0 hfz31_1 hfz31_2 hfz31_3 hfz31_4); (try clear hfz40_0 hfz40_1 hfz40_2 hfz40_3); (try clear hfz46_0 hfz46_1 hfz46_2 hfz46_3); (try clear hfz49_0 hfz49_1 hfz49_2 hfz49_3); (try clear hfz5_0 hfz5_1 hfz5_2 hfz5_3 hfz5_4)
   obtain ⟨kq, x35_10, rfl, HA, HJ10, HO_1188000, HO_1188001, HO_1188002, HO_1188003, BK1153, BK1187, HB⟩ := hcut
   cases kq with
   | zero => exact absurd HA.out (by simp [laws_FnExactCounts.j0])
   | succ kj10 =>
    have H := HA.out
    clear HA
    simp only [laws_FnExactCounts.j0] at H
    by_cases c51 : x35_10 = true
    ·subst c51
     have H1 : (some false) = some true := by rw [if_pos rfl] at H; exact H
     clear H
     have H := H1
     clear H1
     exact absurd H (by first | (simp; done) | ((repeat' split) <;> simp))
    ·replace c51 := Bool.eq_false_iff.mpr c51
     subst c51
     have H1 : ((laws_toYard.f kj10 l0_0 l0_1 l0_2 l0_3 a0_4).bind fun bt1195 => ((laws_eqYard.f kj10 t1174 t1177 t1180 t1183 t1186 bt1195.1 bt1195.2.1 bt1195.2.2.1 bt1195.2.2.2.1 bt1195.2.2.2.2).bind fun t1208 => (if t1208 = true then (some true) else (some false)))) = some true := by rw [if_neg (show ¬ (false = true) by decide)] at H; exact H
     clear H
     have H := H1
     clear H1
     replace H := Option.bind_eq_some_iff.mp H
     obtain ⟨⟨t1195, t1198, t1201, t1204, t1207⟩, A520, H⟩ := H
     replace H : ((laws_eqYard.f kj10 t1174 t1177 t1180 t1183 t1186 t1195 t1198 t1201 t1204 t1207).bind fun t1208 => (if t1208 = true then (some true) else (some false))) = some true := H
     have A52 := Aside0.mk A520
     clear A520
     replace H := Option.bind_eq_some_iff.mp H
     obtain ⟨t1208, A530, H⟩ := H
     replace H : (if t1208 = true then (some true) else (some false)) = some true := H
     have A53 := Aside0.mk A530
     clear A530
     by_cases c54 : t1208 = true
     ·subst c54
      have H1 : (some true) = some true := by rfl
      clear H
      have H := H1
      clear H1
      clear H
      try go_wp2
      have n0_ := Aside0.mk (Kd.R_drew HO_1188000.out)
      have n1_ := Aside0.mk (Kd.R_drew HO_1188001.out)
      have n2_ := Aside0.mk (Kd.R_drew HO_1188002.out)
      have n3_ := Aside0.mk (Kd.R_drew HO_1188003.out)
      have n4_ := Aside0.mk (blk_drew BK1153.out)
      have n5_ := Aside0.mk (blk_drew BK1187.out)
      have n6_ := Aside0.mk (below_drew1 HB.out)
      clear HO_1188000
      clear HO_1188001
      clear HO_1188002
      clear HO_1188003
      clear BK1153
      clear BK1187
      clear HB
      have HO_1188000 := n0_
      have HO_1188001 := n1_
      have HO_1188002 := n2_
      have HO_1188003 := n3_
      have BK1153 := n4_
      have BK1187 := n5_
      have HB := n6_
      clear n0_ n1_ n2_ n3_ n4_ n5_ n6_
      refine start_ (n := 5) (S := fun w' => w'.cell? ⟨gb1187, 0, none⟩ = some (.slice Ao28 t1174.length co28) ∧ w'.cell? ⟨gb1187, 1, none⟩ = some (.slice Ao32 t1177.length co32) ∧ w'.cell? ⟨gb1187, 2, none⟩ = some (.slice Ao33 t1180.length co33) ∧ w'.cell? ⟨gb1187, 3, none⟩ = some (.slice Ao34 t1183.length co34) ∧ w'.cell? ⟨gb1187, 4, none⟩ = some (.int .i64 t1186) ∧ w'.cell? ⟨gb1153, 0, none⟩ = some (.slice A0_0 l0_0.length c0_0) ∧ w'.cell? ⟨gb1153, 1, none⟩ = some (.slice A0_1 l0_1.length c0_1) ∧ w'.cell? ⟨gb1153, 2, none⟩ = some (.slice A0_2 l0_2.length c0_2) ∧ w'.cell? ⟨gb1153, 3, none⟩ = some (.slice A0_3 l0_3.length c0_3) ∧ w'.cell? ⟨gb1153, 4, none⟩ = some (.int .i64 a0_4)) (ds := []) #[false, false, false, false, false] (by kernel_rfl) rfl rfl ⟨(blk_cell BK1187.out 0).trans rfl, (blk_cell BK1187.out 1).trans rfl, (blk_cell BK1187.out 2).trans rfl, (blk_cell BK1187.out 3).trans rfl, (blk_cell BK1187.out 4).trans rfl, (blk_cell BK1153.out 0).trans rfl, (blk_cell BK1153.out 1).trans rfl, (blk_cell BK1153.out 2).trans rfl, (blk_cell BK1153.out 3).trans rfl, (blk_cell BK1153.out 4).trans rfl⟩ (fun hHeld => ?_)
      generalize wc.drew = w55 at HO_1188000 HO_1188001 HO_1188002 HO_1188003 BK1153 BK1187 HB hHeld ⊢
      refine take_ (i := 0) (N := some 36) (v := ?_) (a' := ?_) #[true, false, false, false, false] rfl rfl (by kernel_rfl) (fun _ _ _ h => h) (Or.inl ⟨by rfl, ?_⟩) hHeld ?_ ?_
      rotate_left
      ·rintro w' ⟨s0, s1, s2, s3, s4, s5, s6, s7, s8, s9⟩
       go_simp
       with_reducible rfl
      rotate_left
      ·simp only [Act.put, sx_, sy_, sz_, i64_w, i32_w]
       rfl
      refine take_ (i := 1) (N := some 37) (v := ?_) (a' := ?_) #[true, true, false, false, false] rfl rfl (by kernel_rfl) (fun _ _ _ h => h) (Or.inl ⟨by rfl, ?_⟩) hHeld ?_ ?_
      rotate_left
      ·rintro w' ⟨s0, s1, s2, s3, s4, s5, s6, s7, s8, s9⟩
       go_simp
       with_reducible rfl
      rotate_left
      ·simp only [Act.put, sx_, sy_, sz_, i64_w, i32_w]
       rfl
      refine one_ (i := 2) (N := some 38) #[true, true, true, false, false] rfl rfl (by kernel_rfl) (by decide) (fun K hK => ?_)
      refine goes_ Try.func32 (by kernel_rfl) rfl #[.agg #[.slice A0_0 l0_0.length c0_0, .slice A0_1 l0_1.length c0_1, .slice A0_2 l0_2.length c0_2, .slice A0_3 l0_3.length c0_3, .int .i64 a0_4]] (by rfl) rfl rfl (by (try simp only [List.map_toArray, List.map_cons, List.map_nil]); first | done | rfl | (simp only [List.length_drop, List.length_take]; rfl)) ?_
      with_reducible refine (laws_toYard.calls kj10 _ _ l0_0 _ _ l0_1 _ _ l0_2 _ _ l0_3 a0_4 t1195 t1198 t1201 t1204 t1207 _ ?side1 ?side2 ?side3 ?side4 ?side5 ?side6 ?side7 ?side8 A52.out).mono ?_
      (case side1 => exact (Kd.C_below HR0_0.out HB.out))
      (case side2 => exact HC0_0.out)
      (case side3 => exact (Kd.C_below HR0_1.out HB.out))
      (case side4 => exact HC0_1.out)
      (case side5 => exact (Kd.C_below HR0_2.out HB.out))
      (case side6 => exact HC0_2.out)
      (case side7 => exact (Kd.C_below HR0_3.out HB.out))
      (case side8 => exact HC0_3.out)
      rintro e w56 ⟨v1196, v1199, v1202, v1205, rfl, ho0, ho1, ho2, ho3, hb⟩
      refine ⟨_, rfl, ?_⟩
      have n0_ := Aside0.mk (Kd.R_elder' HO_1188000.out (Kd.R_base ho0) hb)
      have n1_ := Aside0.mk (Kd.R_mono (Kd.R_told (Kd.R_told (Kd.R_old HO_1188001.out hb) (Kd.R_base ho1)) (Kd.R_base ho2)) (fun _ h_ => h_.1))
      have n2_ := Aside0.mk (Kd.R_mono (Kd.R_told (Kd.R_told (Kd.R_old HO_1188002.out hb) (Kd.R_base ho1)) (Kd.R_base ho2)) (fun _ h_ => h_.1))
      have n3_ := Aside0.mk (Kd.R_elder' HO_1188003.out (Kd.R_base ho3) hb)
      have n4_ := Aside0.mk (Kd.R_lower (Kd.R_new' ho0 (Kd.R_lt HO_1188000.out)) (below_size (by repeat (first | (with_reducible first | exact HB.out | apply below_alloc | apply pw_below_drewN | apply below_drew1 | refine below_set ?_ GE1153.out | refine below_set ?_ GE1187.out) | exact HB.out))))
      have n5_ := Aside0.mk (Kd.R_lower (Kd.R_new' (Kd.R_new' ho1 (Kd.R_lt HO_1188001.out)) (Kd.R_lt HO_1188002.out)) (below_size (by repeat (first | (with_reducible first | exact HB.out | apply below_alloc | apply pw_below_drewN | apply below_drew1 | refine below_set ?_ GE1153.out | refine below_set ?_ GE1187.out) | exact HB.out))))
      have n6_ := Aside0.mk (Kd.R_lower (Kd.R_new' (Kd.R_new' ho2 (Kd.R_lt HO_1188001.out)) (Kd.R_lt HO_1188002.out)) (below_size (by repeat (first | (with_reducible first | exact HB.out | apply below_alloc | apply pw_below_drewN | apply below_drew1 | refine below_set ?_ GE1153.out | refine below_set ?_ GE1187.out) | exact HB.out))))
      have n7_ := Aside0.mk (Kd.R_lower (Kd.R_new' ho3 (Kd.R_lt HO_1188003.out)) (below_size (by repeat (first | (with_reducible first | exact HB.out | apply below_alloc | apply pw_below_drewN | apply below_drew1 | refine below_set ?_ GE1153.out | refine below_set ?_ GE1187.out) | exact HB.out))))
      have n8_ := Aside0.mk (blk_below (g := gb1153) (o := .cells #[.slice A0_0 l0_0.length c0_0, .slice A0_1 l0_1.length c0_1, .slice A0_2 l0_2.length c0_2, .slice A0_3 l0_3.length c0_3, .int .i64 a0_4] 56 (0, 0)) BK1153.out hb)
      have n9_ := Aside0.mk (blk_below (g := gb1187) (o := .cells #[.slice Ao28 t1174.length co28, .slice Ao32 t1177.length co32, .slice Ao33 t1180.length co33, .slice Ao34 t1183.length co34, .int .i64 t1186] 30 (0, 0)) BK1187.out hb)
      have n10_ := Aside0.mk (below_step (by repeat (first | (with_reducible first | exact HB.out | apply below_alloc | apply pw_below_drewN | apply below_drew1 | refine below_set ?_ GE1153.out | refine below_set ?_ GE1187.out) | exact HB.out)) hb)
      clear HO_1188000
      clear HO_1188001
      clear HO_1188002
      clear HO_1188003
      clear BK1153
      clear BK1187
      clear HB
      have HO_1188000 := n0_
      have HO_1188001 := n1_
      have HO_1188002 := n2_
      have HO_1188003 := n3_
      have HO1197 := n4_
      have HO1200 := n5_
      have HO1203 := n6_
      have HO1206 := n7_
      have BK1153 := n8_
      have BK1187 := n9_
      have HB := n10_
      clear n0_ n1_ n2_ n3_ n4_ n5_ n6_ n7_ n8_ n9_ n10_
      (try clear hb)
      (try clear hb2)
      (try clear hk)
      (try clear hi)
      (try clear ho0)
      (try clear ho1)
      (try clear ho2)
      (try clear ho3)
      obtain ⟨Ao57, co57, eo57⟩ := Kd.R_slice HO1197.out
      (first | subst eo57 | (injection eo57 with f1_ f2_ f3_; have f4_ := f1_.symm; have f5_ := f3_.symm; clear f1_ f2_ f3_; subst f4_; subst f5_))
      obtain ⟨Ao58, co58, eo58⟩ := Kd.R_slice HO1200.out
      (first | subst eo58 | (injection eo58 with f1_ f2_ f3_; have f4_ := f1_.symm; have f5_ := f3_.symm; clear f1_ f2_ f3_; subst f4_; subst f5_))
      obtain ⟨Ao59, co59, eo59⟩ := Kd.R_slice HO1203.out
      (first | subst eo59 | (injection eo59 with f1_ f2_ f3_; have f4_ := f1_.symm; have f5_ := f3_.symm; clear f1_ f2_ f3_; subst f4_; subst f5_))
      obtain ⟨Ao60, co60, eo60⟩ := Kd.R_slice HO1206.out
      (first | subst eo60 | (injection eo60 with f1_ f2_ f3_; have f4_ := f1_.symm; have f5_ := f3_.symm; clear f1_ f2_ f3_; subst f4_; subst f5_))
      refine hK.out _ _ ⟨(blk_cell BK1187.out 0).trans rfl, (blk_cell BK1187.out 1).trans rfl, (blk_cell BK1187.out 2).trans rfl, (blk_cell BK1187.out 3).trans rfl, (blk_cell BK1187.out 4).trans rfl, (blk_cell BK1153.out 0).trans rfl, (blk_cell BK1153.out 1).trans rfl, (blk_cell BK1153.out 2).trans rfl, (blk_cell BK1153.out 3).trans rfl, (blk_cell BK1153.out 4).trans rfl⟩ (fun hHeld => ?_)
      clear hK K
      refine norm_ (a' := ?_) ?_ ?_
      rotate_left
      ·show Act.put _ (some 38) _ = _
       simp only [Act.put, sx_, sy_, sz_, i64_w, i32_w]
       rfl
      refine one_ (i := 3) (N := some 39) #[true, true, true, true, false] rfl rfl (by kernel_rfl) (by decide) (fun K hK => ?_)
      refine goes_ Try.func27 (by kernel_rfl) rfl #[.agg #[.slice Ao28 t1174.length co28, .slice Ao32 t1177.length co32, .slice Ao33 t1180.length co33, .slice Ao34 t1183.length co34, .int .i64 t1186], .agg #[.slice Ao57 t1195.length co57, .slice Ao58 t1198.length co58, .slice Ao59 t1201.length co59, .slice Ao60 t1204.length co60, .int .i64 t1207]] (by rfl) rfl rfl (by (try simp only [List.map_toArray, List.map_cons, List.map_nil]); first | done | rfl | (simp only [List.length_drop, List.length_take]; rfl)) ?_
      with_reducible refine (laws_eqYard.calls kj10 _ _ t1174 _ _ t1177 _ _ t1180 _ _ t1183 t1186 _ _ t1195 _ _ t1198 _ _ t1201 _ _ t1204 t1207 true _ ?side1 ?side2 ?side3 ?side4 ?side5 ?side6 ?side7 ?side8 ?side9 ?side10 ?side11 ?side12 ?side13 ?side14 ?side15 ?side16 A53.out).mono ?_
      (case side1 => repeat (first | exact (Kd.R_reads' HO_1188000.out).2.2 | (with_reducible refine Kd.C_alloc ?_ _) | (with_reducible refine Kd.C_drewN ?_ _) | (with_reducible refine Kd.C_drew ?_)))
      (case side2 => exact (Kd.R_reads' HO_1188000.out).2.1)
      (case side3 => repeat (first | exact (Kd.R_reads' HO_1188001.out).2.2 | (with_reducible refine Kd.C_alloc ?_ _) | (with_reducible refine Kd.C_drewN ?_ _) | (with_reducible refine Kd.C_drew ?_)))
      (case side4 => exact (Kd.R_reads' HO_1188001.out).2.1)
      (case side5 => repeat (first | exact (Kd.R_reads' HO_1188002.out).2.2 | (with_reducible refine Kd.C_alloc ?_ _) | (with_reducible refine Kd.C_drewN ?_ _) | (with_reducible refine Kd.C_drew ?_)))
      (case side6 => exact (Kd.R_reads' HO_1188002.out).2.1)
      (case side7 => repeat (first | exact (Kd.R_reads' HO_1188003.out).2.2 | (with_reducible refine Kd.C_alloc ?_ _) | (with_reducible refine Kd.C_drewN ?_ _) | (with_reducible refine Kd.C_drew ?_)))
      (case side8 => exact (Kd.R_reads' HO_1188003.out).2.1)
      (case side9 => repeat (first | exact (Kd.R_reads' HO1197.out).2.2 | (with_reducible refine Kd.C_alloc ?_ _) | (with_reducible refine Kd.C_drewN ?_ _) | (with_reducible refine Kd.C_drew ?_)))
      (case side10 => exact (Kd.R_reads' HO1197.out).2.1)
      (case side11 => repeat (first | exact (Kd.R_reads' HO1200.out).2.2 | (with_reducible refine Kd.C_alloc ?_ _) | (with_reducible refine Kd.C_drewN ?_ _) | (with_reducible refine Kd.C_drew ?_)))
      (case side12 => exact (Kd.R_reads' HO1200.out).2.1)
      (case side13 => repeat (first | exact (Kd.R_reads' HO1203.out).2.2 | (with_reducible refine Kd.C_alloc ?_ _) | (with_reducible refine Kd.C_drewN ?_ _) | (with_reducible refine Kd.C_drew ?_)))
      (case side14 => exact (Kd.R_reads' HO1203.out).2.1)
      (case side15 => repeat (first | exact (Kd.R_reads' HO1206.out).2.2 | (with_reducible refine Kd.C_alloc ?_ _) | (with_reducible refine Kd.C_drewN ?_ _) | (with_reducible refine Kd.C_drew ?_)))
      (case side16 => exact (Kd.R_reads' HO1206.out).2.1)
      rintro e w61 ⟨rfl, hb⟩
      refine ⟨_, rfl, ?_⟩
      have n0_ := Aside0.mk (Kd.R_below HO_1188000.out hb)
      have n1_ := Aside0.mk (Kd.R_below HO_1188001.out hb)
      have n2_ := Aside0.mk (Kd.R_below HO_1188002.out hb)
      have n3_ := Aside0.mk (Kd.R_below HO_1188003.out hb)
      have n4_ := Aside0.mk (Kd.R_below HO1197.out hb)
      have n5_ := Aside0.mk (Kd.R_below HO1200.out hb)
      have n6_ := Aside0.mk (Kd.R_below HO1203.out hb)
      have n7_ := Aside0.mk (Kd.R_below HO1206.out hb)
      have n8_ := Aside0.mk (blk_below (g := gb1153) (o := .cells #[.slice A0_0 l0_0.length c0_0, .slice A0_1 l0_1.length c0_1, .slice A0_2 l0_2.length c0_2, .slice A0_3 l0_3.length c0_3, .int .i64 a0_4] 56 (0, 0)) BK1153.out hb)
      have n9_ := Aside0.mk (blk_below (g := gb1187) (o := .cells #[.slice Ao28 t1174.length co28, .slice Ao32 t1177.length co32, .slice Ao33 t1180.length co33, .slice Ao34 t1183.length co34, .int .i64 t1186] 30 (0, 0)) BK1187.out hb)
      have n10_ := Aside0.mk (below_step (by repeat (first | (with_reducible first | exact HB.out | apply below_alloc | apply pw_below_drewN | apply below_drew1 | refine below_set ?_ GE1153.out | refine below_set ?_ GE1187.out) | exact HB.out)) hb)
      clear HO_1188000
      clear HO_1188001
      clear HO_1188002
      clear HO_1188003
      clear HO1197
      clear HO1200
      clear HO1203
      clear HO1206
      clear BK1153
      clear BK1187
      clear HB
      have HO_1188000 := n0_
      have HO_1188001 := n1_
      have HO_1188002 := n2_
      have HO_1188003 := n3_
      have HO1197 := n4_
      have HO1200 := n5_
      have HO1203 := n6_
      have HO1206 := n7_
      have BK1153 := n8_
      have BK1187 := n9_
      have HB := n10_
      clear n0_ n1_ n2_ n3_ n4_ n5_ n6_ n7_ n8_ n9_ n10_
      (try clear hb)
      (try clear hb2)
      (try clear hk)
      (try clear hi)
      refine hK.out _ _ ⟨(blk_cell BK1187.out 0).trans rfl, (blk_cell BK1187.out 1).trans rfl, (blk_cell BK1187.out 2).trans rfl, (blk_cell BK1187.out 3).trans rfl, (blk_cell BK1187.out 4).trans rfl, (blk_cell BK1153.out 0).trans rfl, (blk_cell BK1153.out 1).trans rfl, (blk_cell BK1153.out 2).trans rfl, (blk_cell BK1153.out 3).trans rfl, (blk_cell BK1153.out 4).trans rfl⟩ (fun hHeld => ?_)
      clear hK K
      refine norm_ (a' := ?_) ?_ ?_
      rotate_left
      ·show Act.put _ (some 39) _ = _
       simp only [Act.put, sx_, sy_, sz_, i64_w, i32_w]
       rfl
      refine pure_ (i := 4) (N := some 40) (v := ?_) (a' := ?_) #[true, true, true, true, true] rfl rfl (by kernel_rfl) (fun _ _ _ h => h) (Or.inl ⟨by rfl, ?_⟩) ?_ ?_
      rotate_left
      ·intro w'
       go_simp
       with_reducible rfl
      rotate_left
      ·simp only [Act.put, sx_, sy_, sz_, i64_w, i32_w]
       rfl
      refine done_ (by kernel_rfl) ?_
      try go_wp2
      go_ret
      (try rw [HT_.out])
      (try simp only [HT_.out])
      exact ⟨by first | rfl | (simp [errW_none, errW_some] <;> rfl) | (simp [*, errW_none, errW_some] <;> rfl), by repeat (first | (with_reducible first | exact HB.out | apply below_alloc | apply pw_below_drewN | apply below_drew1 | refine below_set ?_ GE1153.out | refine below_set ?_ GE1187.out) | exact HB.out)⟩
     ·replace c54 := Bool.eq_false_iff.mpr c54
      subst c54
      have H1 : (some false) = some true := by rw [if_neg (show ¬ (false = true) by decide)] at H; exact H
      clear H
      have H := H1
      clear H1
      exact absurd H (by first | (simp; done) | ((repeat' split) <;> simp))

/-- THE ONE PURE STATEMENT of laws_FnExactCounts. -/
def laws_FnExactCounts.Pure : Prop := ∀ (l0_0 : List (S114)) (l0_1 : List Int) (l0_2 : List Int) (l0_3 : List (S109)) (a0_4 : Int), (l0_0.length ≤ maxLen ∧ ∀ z0 ∈ l0_0, wf114 z0) → (l0_1.length ≤ maxLen ∧ ∀ z0 ∈ l0_1, (Lit.int .i64 z0).wf = true) → (l0_2.length ≤ maxLen ∧ ∀ z0 ∈ l0_2, (Lit.int .i64 z0).wf = true) → (l0_3.length ≤ maxLen ∧ ∀ z0 ∈ l0_3, wf109 z0) → (Lit.int .i64 a0_4).wf = true → ∃ k, laws_FnExactCounts.f k l0_0 l0_1 l0_2 l0_3 a0_4 = some true


end Go.Proofs.Ytemdjfiimgjiaaa.M
