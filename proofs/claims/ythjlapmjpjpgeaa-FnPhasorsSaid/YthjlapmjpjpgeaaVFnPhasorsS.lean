/- Short names for long tactic words: by these the printed text of the law gets shorter. Conditions: those that each theorem states. -/
import Derived.Test.YthjlapmjpjpgeaaVFnPhasorsB
namespace Go.Proofs.Ythjlapmjpjpgeaa.Sq
open Go.RowKit Go.Proofs.YthjlapmjpjpgeaaW.PrintWords

theorem bk {P Q : Prop} (q : Q) (h : Q → P := by intro q_; (with_reducible repeat (first | refine blk_drewN ?_ _ | refine blk_drew ?_ | refine blk_alloc ?_ _)); exact q_) : P := h q
theorem rk {P Q : Prop} (q : Q) (h : Q → P := by intro q_; (with_reducible repeat (first | apply Kd.R_alloc | apply Kd.R_drewN | apply Kd.R_drew)); exact q_) : P := h q
theorem qk {P Q : Prop} (q : Q) (h : Q → P := by intro q_; (with_reducible repeat (first | apply Kd.Q_alloc | apply Kd.Q_drewN | apply Kd.Q_drew)); exact q_) : P := h q
theorem ck {P Q : Prop} (q : Q) (h : Q → P := by intro q_; repeat (first | exact q_ | (with_reducible refine Kd.C_alloc ?_ _) | (with_reducible refine Kd.C_drewN ?_ _) | (with_reducible refine Kd.C_drew ?_))) : P := h q
theorem bw {P Q : Prop} (q : Q) (h : Q → P := by intro q_; repeat (first | (with_reducible first | exact q_ | apply below_alloc | apply pw_below_drewN | apply below_drew1) | exact q_)) : P := h q
theorem bw1 {P Q G : Prop} (q : Q) (g : G) (h : Q → G → P := by intro q_ g_; repeat (first | (with_reducible first | exact q_ | apply below_alloc | apply pw_below_drewN | apply below_drew1 | refine below_set ?_ g_) | exact q_)) : P := h q g
theorem bw2 {P Q G G' : Prop} (q : Q) (g : G) (g' : G') (h : Q → G → G' → P := by intro q_ g_ i_; repeat (first | (with_reducible first | exact q_ | apply below_alloc | apply pw_below_drewN | apply below_drew1 | refine below_set ?_ g_ | refine below_set ?_ i_) | exact q_)) : P := h q g g'
theorem bw3 {P Q G G' G'' : Prop} (q : Q) (g : G) (g' : G') (g'' : G'') (h : Q → G → G' → G'' → P := by intro q_ g_ i_ j_; repeat (first | (with_reducible first | exact q_ | apply below_alloc | apply pw_below_drewN | apply below_drew1 | refine below_set ?_ g_ | refine below_set ?_ i_ | refine below_set ?_ j_) | exact q_)) : P := h q g g' g''
theorem bw4 {P Q G G' G'' G3 : Prop} (q : Q) (g : G) (g' : G') (g'' : G'') (g3 : G3) (h : Q → G → G' → G'' → G3 → P := by intro q_ g_ i_ j_ k_; repeat (first | (with_reducible first | exact q_ | apply below_alloc | apply pw_below_drewN | apply below_drew1 | refine below_set ?_ g_ | refine below_set ?_ i_ | refine below_set ?_ j_ | refine below_set ?_ k_) | exact q_)) : P := h q g g' g'' g3
theorem bB {W0 W w1 : World} {g : Nat} {o : Obj} (h : W0.heap[g]? = some o) (hb : Below W.heap.size W w1) (k : W0.heap[g]? = some o → W.heap[g]? = some o := by intro q_; (with_reducible repeat (first | refine blk_drewN ?_ _ | refine blk_drew ?_ | refine blk_alloc ?_ _)); exact q_) : w1.heap[g]? = some o := blk_below (k h) hb
theorem bL {W0 W : World} {g : Nat} {o : Obj} (h : W0.heap[g]? = some o) (k : W0.heap[g]? = some o → W.heap[g]? = some o := by intro q_; (with_reducible repeat (first | refine blk_drewN ?_ _ | refine blk_drew ?_ | refine blk_alloc ?_ _)); exact q_) : g < W.heap.size := blk_lt (k h)
theorem er {P : Prop} (h : P := by first | rfl | (simp [errW_none, errW_some] <;> rfl) | (simp [*, errW_none, errW_some] <;> rfl)) : P := h
theorem gl {P : Prop} (h : P := by (try simp only [List.map_toArray, List.map_cons, List.map_nil]); first | done | rfl | (simp only [List.length_drop, List.length_take]; rfl)) : P := h
theorem oa {p : Prop} [Decidable p] (h : decide p = true := by first | (with_reducible assumption) | assumption) : p := of_decide_eq_true h

end Go.Proofs.Ythjlapmjpjpgeaa.Sq
