/- Short forms of what printed texts say often: steps of a region, calls, boxes, blocks over stores. Conditions: those that each theorem states. -/
import Derived.Test.YtemdjfiimgjiaaaVFnReclaimedA0
section
namespace Go.Proofs.Ytemdjfiimgjiaaa.Sq
open Go.RowKit Go.Proofs.YtemdjfiimgjiaaaW.PrintWords Go.Proofs.YtemdjfiimgjiaaaW.PrintLast Go.Proofs.YtemdjfiimgjiaaaW.PrintMore
def tl : Nat → Nat → List Bool
  | 0, _ => []
  | n + 1, k => (k % 2 == 1) :: tl n (k / 2)
/-- A table of n bits. -/
def tb (n k : Nat) : Array Bool := ⟨tl n k⟩
theorem A_ {p : Prop} (h : p) : Aside0 p := ⟨h⟩
section
variable {P : Program} {ops : Array Oper} {Q : Exit → Act → World → Prop} {md : Region.Mode} {S : World → Prop} {ds : List Nat} {T : Bool × List (List Nat × List Nat)}
theorem pu_ {oi : Oper} {v : Value} {fuel : Nat} {l : Array Bool} {a a' : Act} {w : World} (i n : Nat) (l' : Array Bool) (hT : rtab md ops = T) (hi : ops[i]? = some oi) (hN : oi.dst = some n)
    (h : wpAnyLast P md ops Q S ds fuel l' a' w) (hc : anyT T l.toList l'.toList i = true := by kernel_rfl) (hQ : ∀ c a w, Q (.panic c) (a.put oi.dst v) w → Q (.panic c) a w := by exact fun _ _ _ h => h)
    (hw : Region.wanted oi (yielded ops a.tmps) = true := by rfl) (hy : ∀ w', (execOp a.eval oi).run P w' = .ok (.value v) w' := by intro w';go_simp;with_reducible rfl)
    (ha : a.put (some n) v = a' := by simp only [Act.put, sx_, sy_, sz_, i64_w, i32_w];rfl) : wpAnyLast P md ops Q S ds (fuel + 1) l a w := pure_ l' hi hN (any_of hT hc) hQ (Or.inl ⟨hw, hy⟩) ha h
theorem pv_ {oi : Oper} {fuel : Nat} {l : Array Bool} {a a' : Act} {w : World} (i n : Nat) (l' : Array Bool) (hT : rtab md ops = T) (hi : ops[i]? = some oi) (hN : oi.dst = some n)
    (h : wpAnyLast P md ops Q S ds fuel l' a' w) (hc : anyT T l.toList l'.toList i = true := by kernel_rfl) (hQ : ∀ c a w, Q (.panic c) (a.put oi.dst undef) w → Q (.panic c) a w := by exact fun _ _ _ h => h)
    (hw : Region.wanted oi (yielded ops a.tmps) = false := by rfl)
    (ha : a.put (some n) undef = a' := by simp only [Act.put, sx_, sy_, sz_, i64_w, i32_w];rfl) : wpAnyLast P md ops Q S ds (fuel + 1) l a w := pure_ l' hi hN (any_of hT hc) hQ (Or.inr ⟨hw, rfl⟩) ha h
theorem tk_ {B : List Nat} {oi : Oper} {v : Value} {fuel : Nat} {l : Array Bool} {a : Act} {w : World} (i n : Nat) (l' : Array Bool) (hT : rtab md ops = T) (hB : waitsOk T.2 B = true) (hi : ops[i]? = some oi) (hN : oi.dst = some n) (hS : S w)
    (hy : ∀ w', S w' → (execOp a.eval oi).run P w' = .ok (.value v) w') {a' : Act} (ha : a.put (some n) v = a')
    (h : wpAnyLast P md ops Q S ds fuel l' a' w) (hc : takeW T B ds l.toList l'.toList i = true := by kernel_rfl) (hQ : ∀ c a w, Q (.panic c) (a.put oi.dst v) w → Q (.panic c) a w := by exact fun _ _ _ h => h)
    (hw : Region.wanted oi (yielded ops a.tmps) = true := by rfl) : wpAnyLast P md ops Q S ds (fuel + 1) l a w := take_ l' hi hN (take_ofW hT hB hc) hQ (Or.inl ⟨hw, hy⟩) hS ha h
end
section
variable {P : Program} {ops : Array Oper} {Q : Exit → Act → World → Prop} {rest : List Oper} {o : Oper} {a : Act}
theorem gL_ {w : World} (N : Option Tmp) {f : FuncId} {fn : Func} {as : Array Operand} {ts : Array TypeId} (hf : P.funcs[f]? = some fn) (args : Array Value)
    (h : Calls P f args w fun e w' => ∃ v, e = .returned v ∧ wpList P ops Q rest (a.put N v) w') (hd : o.dst = N := by rfl) (hg : o.guard = none := by rfl) (hname : (fn.name == "runtime.NumGoroutine") = false := by kernel_rfl) (hb : fn.body.isSome = true := by rfl)
    (hop : o.op = .call { callee := .value (.func f), args := as, argTypes := ts } := by rfl) (hargs : as.map a.eval = args := by (try simp only [List.map_toArray, List.map_cons, List.map_nil]); first | done | rfl | (simp only [List.length_drop, List.length_take]; rfl)) : wpList P ops Q (o :: rest) a w :=
  goesL_ N hd hg hf hname hb args hop hargs h
theorem gk_ {W : World} (f : FuncId) {as : Array Operand} {ts : Array TypeId} (_ho : o.op = .call { callee := .value (.func f), args := as, argTypes := ts }) (h : wpList P ops Q (o :: rest) a W) : wpList P ops Q (o :: rest) a W := h
theorem gd_ {W : World} (N : Tmp) (_hN : o.dst = some N) (h : wpList P ops Q (o :: rest) a W) : wpList P ops Q (o :: rest) a W := h
theorem bx_ {W : World} (N : Tmp) (cs : Array Value) (t : TypeId) (h : ∀ g, g = W.heap.size → ∀ w1, w1.heap[g]? = some (.cells cs t (0, 0)) → Below W.heap.size W w1 → wpList P ops Q rest (a.put o.dst (.pointer (some ⟨g, 0, none⟩))) w1)
    (hd : o.dst = some N := by rfl) (hgd : o.guard = none := by rfl) (hrun : (execOp a.eval o).run P W = .ok (.value (.pointer (some ⟨W.heap.size, 0, none⟩))) (W.alloc (.cells cs t (0, 0))) := by first | (go_simp; done) | (go_simp; rfl)) : wpList P ops Q (o :: rest) a W :=
  box_event hgd hd hrun h
end
theorem re {P : Prop} (h : P := by first | rfl | (simp; done) | (simp [*]; done)) : P := h
theorem dw {P : Prop} (h : P := by repeat (first | exact Drawn0.refl _ | apply Drawn0.step)) : P := h
theorem pl {P Q : Prop} (q : Q) (h : Q → P := by intro q_; (with_reducible repeat (first | apply Kd.R_alloc | apply Kd.R_drewN | apply Kd.R_drew)); exact q_) : P := h q
theorem pb {P Q : Prop} (q : Q) (h : Q → P := by intro q_; (with_reducible repeat (first | refine blk_drewN ?_ _ | refine blk_drew ?_ | refine blk_alloc ?_ _)); exact q_) : P := h q
theorem bc {w : World} {g : Nat} {t : TypeId} {cs : Array Value} {v : Value} (h : w.heap[g]? = some (.cells cs t (0, 0))) (i : Nat) (e : cs[i]? = some v := by exact rfl) : w.cell? ⟨g, i, none⟩ = some v := (blk_cell h i).trans e
theorem szl_ (w : World) {W : World} {g : Nat} (hg : g = W.heap.size) (h : Below w.heap.size w W) : w.heap.size ≤ g := hg ▸ below_size h
theorem nl_ {g h n : Nat} (hg : h = n) (l : g < n) : g ≠ h := hg ▸ Nat.ne_of_lt l
theorem ng_ {g h n : Nat} (hg : h = n) (l : g < n) : h ≠ g := hg ▸ Nat.ne_of_gt l
theorem bfr {w : World} {g h : Nat} {t : TypeId} {cs : Array Value} (n : g ≠ h) (i : Nat) (r : Option Nat) (u : Value) (H : w.heap[g]? = some (.cells cs t (0, 0))) : (w.setCell ⟨h, i, r⟩ u).heap[g]? = some (.cells cs t (0, 0)) := blk_far H n u
theorem bp {W0 W : World} {g : Nat} {t : TypeId} {cs cs' : Array Value} (h : W0.heap[g]? = some (.cells cs t (0, 0))) (k : W0.heap[g]? = some (.cells cs t (0, 0)) → W.heap[g]? = some (.cells cs' t (0, 0)) := by intro q_; apply bE_; (case h => (repeat (first | (with_reducible first | refine blk_drewN ?_ _ | refine blk_drew ?_ | refine blk_alloc ?_ _ | apply blk_set))); exact q_); (case e => rfl)) : W.heap[g]? = some (.cells cs' t (0, 0)) := k h
theorem bp1 {G : Prop} {W0 W : World} {g : Nat} {t : TypeId} {cs cs' : Array Value} (h : W0.heap[g]? = some (.cells cs t (0, 0))) (n : G) (k : W0.heap[g]? = some (.cells cs t (0, 0)) → G → W.heap[g]? = some (.cells cs' t (0, 0)) := by intro q_ n_; apply bE_; (case h => (repeat (first | (with_reducible first | refine blk_drewN ?_ _ | refine blk_drew ?_ | refine blk_alloc ?_ _ | apply blk_set | apply bfr n_))); exact q_); (case e => rfl)) : W.heap[g]? = some (.cells cs' t (0, 0)) := k h n
theorem bp2 {G G' : Prop} {W0 W : World} {g : Nat} {t : TypeId} {cs cs' : Array Value} (h : W0.heap[g]? = some (.cells cs t (0, 0))) (n : G) (n' : G') (k : W0.heap[g]? = some (.cells cs t (0, 0)) → G → G' → W.heap[g]? = some (.cells cs' t (0, 0)) := by intro q_ n_ m_; apply bE_; (case h => (repeat (first | (with_reducible first | refine blk_drewN ?_ _ | refine blk_drew ?_ | refine blk_alloc ?_ _ | apply blk_set | apply bfr n_ | apply bfr m_))); exact q_); (case e => rfl)) : W.heap[g]? = some (.cells cs' t (0, 0)) := k h n n'
theorem bf1 {P Q G : Prop} (q : Q) (n : G) (h : Q → G → P := by intro q_ n_; (repeat (first | (with_reducible first | refine blk_drewN ?_ _ | refine blk_drew ?_ | refine blk_alloc ?_ _) | refine blk_far ?_ n_ _)); exact q_) : P := h q n
theorem bf2 {P Q G G' : Prop} (q : Q) (n : G) (n' : G') (h : Q → G → G' → P := by intro q_ n_ m_; (repeat (first | (with_reducible first | refine blk_drewN ?_ _ | refine blk_drew ?_ | refine blk_alloc ?_ _) | refine blk_far ?_ n_ _ | refine blk_far ?_ m_ _)); exact q_) : P := h q n n'
theorem bf3 {P Q G G' G'' : Prop} (q : Q) (n : G) (n' : G') (n'' : G'') (h : Q → G → G' → G'' → P := by intro q_ n_ m_ l_; (repeat (first | (with_reducible first | refine blk_drewN ?_ _ | refine blk_drew ?_ | refine blk_alloc ?_ _) | refine blk_far ?_ n_ _ | refine blk_far ?_ m_ _ | refine blk_far ?_ l_ _)); exact q_) : P := h q n n' n''
theorem bC1 {G : Prop} {W0 W w1 : World} {g : Nat} {o : Obj} (h : W0.heap[g]? = some o) (n : G) (hb : Below W.heap.size W w1) (k : W0.heap[g]? = some o → G → W.heap[g]? = some o := by intro q_ n_; (repeat (first | (with_reducible first | refine blk_drewN ?_ _ | refine blk_drew ?_ | refine blk_alloc ?_ _) | refine blk_far ?_ n_ _)); exact q_) : w1.heap[g]? = some o := blk_below (k h n) hb
theorem bC2 {G G' : Prop} {W0 W w1 : World} {g : Nat} {o : Obj} (h : W0.heap[g]? = some o) (n : G) (n' : G') (hb : Below W.heap.size W w1) (k : W0.heap[g]? = some o → G → G' → W.heap[g]? = some o := by intro q_ n_ m_; (repeat (first | (with_reducible first | refine blk_drewN ?_ _ | refine blk_drew ?_ | refine blk_alloc ?_ _) | refine blk_far ?_ n_ _ | refine blk_far ?_ m_ _)); exact q_) : w1.heap[g]? = some o := blk_below (k h n n') hb
theorem kp0 {P Q : Prop} (q : Q) (h : Q → P := by intro q_; repeat (first | (with_reducible first | exact q_ | apply KeepBut.set_ | apply keep_drewN | apply keep_drew | apply keep_alloc) | exact q_)) : P := h q
theorem kp1 {P Q G0 : Prop} (q : Q) (g0 : G0) (h : Q → G0 → P := by intro q_ a0_; repeat (first | (with_reducible first | exact q_ | apply KeepBut.set_ | apply keep_drewN | apply keep_drew | apply keep_alloc | refine keep_far ?_ a0_ _) | exact q_)) : P := h q g0
theorem kp2 {P Q G0 G1 : Prop} (q : Q) (g0 : G0) (g1 : G1) (h : Q → G0 → G1 → P := by intro q_ a0_ a1_; repeat (first | (with_reducible first | exact q_ | apply KeepBut.set_ | apply keep_drewN | apply keep_drew | apply keep_alloc | refine keep_far ?_ a0_ _ | refine keep_far ?_ a1_ _) | exact q_)) : P := h q g0 g1
theorem kp3 {P Q G0 G1 G2 : Prop} (q : Q) (g0 : G0) (g1 : G1) (g2 : G2) (h : Q → G0 → G1 → G2 → P := by intro q_ a0_ a1_ a2_; repeat (first | (with_reducible first | exact q_ | apply KeepBut.set_ | apply keep_drewN | apply keep_drew | apply keep_alloc | refine keep_far ?_ a0_ _ | refine keep_far ?_ a1_ _ | refine keep_far ?_ a2_ _) | exact q_)) : P := h q g0 g1 g2
theorem kp4 {P Q G0 G1 G2 G3 : Prop} (q : Q) (g0 : G0) (g1 : G1) (g2 : G2) (g3 : G3) (h : Q → G0 → G1 → G2 → G3 → P := by intro q_ a0_ a1_ a2_ a3_; repeat (first | (with_reducible first | exact q_ | apply KeepBut.set_ | apply keep_drewN | apply keep_drew | apply keep_alloc | refine keep_far ?_ a0_ _ | refine keep_far ?_ a1_ _ | refine keep_far ?_ a2_ _ | refine keep_far ?_ a3_ _) | exact q_)) : P := h q g0 g1 g2 g3
theorem kp5 {P Q G0 G1 G2 G3 G4 : Prop} (q : Q) (g0 : G0) (g1 : G1) (g2 : G2) (g3 : G3) (g4 : G4) (h : Q → G0 → G1 → G2 → G3 → G4 → P := by intro q_ a0_ a1_ a2_ a3_ a4_; repeat (first | (with_reducible first | exact q_ | apply KeepBut.set_ | apply keep_drewN | apply keep_drew | apply keep_alloc | refine keep_far ?_ a0_ _ | refine keep_far ?_ a1_ _ | refine keep_far ?_ a2_ _ | refine keep_far ?_ a3_ _ | refine keep_far ?_ a4_ _) | exact q_)) : P := h q g0 g1 g2 g3 g4
theorem bw5 {P Q G0 G1 G2 G3 G4 : Prop} (q : Q) (g0 : G0) (g1 : G1) (g2 : G2) (g3 : G3) (g4 : G4) (h : Q → G0 → G1 → G2 → G3 → G4 → P := by intro q_ a0_ a1_ a2_ a3_ a4_; repeat (first | (with_reducible first | exact q_ | apply below_alloc | apply pw_below_drewN | apply below_drew1 | refine below_set ?_ a0_ | refine below_set ?_ a1_ | refine below_set ?_ a2_ | refine below_set ?_ a3_ | refine below_set ?_ a4_) | exact q_)) : P := h q g0 g1 g2 g3 g4
theorem bw6 {P Q G0 G1 G2 G3 G4 G5 : Prop} (q : Q) (g0 : G0) (g1 : G1) (g2 : G2) (g3 : G3) (g4 : G4) (g5 : G5) (h : Q → G0 → G1 → G2 → G3 → G4 → G5 → P := by intro q_ a0_ a1_ a2_ a3_ a4_ a5_; repeat (first | (with_reducible first | exact q_ | apply below_alloc | apply pw_below_drewN | apply below_drew1 | refine below_set ?_ a0_ | refine below_set ?_ a1_ | refine below_set ?_ a2_ | refine below_set ?_ a3_ | refine below_set ?_ a4_ | refine below_set ?_ a5_) | exact q_)) : P := h q g0 g1 g2 g3 g4 g5
theorem bw7 {P Q G0 G1 G2 G3 G4 G5 G6 : Prop} (q : Q) (g0 : G0) (g1 : G1) (g2 : G2) (g3 : G3) (g4 : G4) (g5 : G5) (g6 : G6) (h : Q → G0 → G1 → G2 → G3 → G4 → G5 → G6 → P := by intro q_ a0_ a1_ a2_ a3_ a4_ a5_ a6_; repeat (first | (with_reducible first | exact q_ | apply below_alloc | apply pw_below_drewN | apply below_drew1 | refine below_set ?_ a0_ | refine below_set ?_ a1_ | refine below_set ?_ a2_ | refine below_set ?_ a3_ | refine below_set ?_ a4_ | refine below_set ?_ a5_ | refine below_set ?_ a6_) | exact q_)) : P := h q g0 g1 g2 g3 g4 g5 g6
end Go.Proofs.Ytemdjfiimgjiaaa.Sq
end
