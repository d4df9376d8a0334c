/- The pure statement of FnExactPhTimes and what it needs. Conditions: those that each theorem states. -/
import Derived.Test.YthjlapmjpjpgeaaVFnExactPhTimes0
import Derived.RowKit
import Derived.Test.YthjlapmjpjpgeaaFl
import Derived.Test.YthjlapmjpjpgeaaSq
import Derived.Test.YthjlapmjpjpgeaaWWords
import Derived.WalkKit
import Derived.WalkLawsBesides
namespace Go.Proofs.Ythjlapmjpjpgeaa.M
set_option linter.unusedSimpArgs false
set_option linter.unusedVariables false
open Go.RowKit Go.Proofs.YthjlapmjpjpgeaaW.PrintWords

theorem cmp_self (a : Int) : compare a a = Ordering.eq := by
  simp [compare, compareOfLessAndEq]
theorem cmp_selfN (a : Nat) : compare a a = Ordering.eq := by
  simp [compare, compareOfLessAndEq]
theorem ord_self (k : FloatKind) (x : Nat) : k.format.order x x = none ∨ k.format.order x x = some .eq := by
  unfold Ieee.Format.order
  cases k.format.read x with
  | number s m e => right; simp [Ieee.Datum.order, cmp_self]
  | infinity s => right; simp [Ieee.Datum.order, cmp_selfN]
  | nan s t => left; rfl
theorem one_read : ((FloatKind.f64.format.read 4607182418800017408).isNaN = false ∧ (FloatKind.f64.format.read 4607182418800017408).isInfinity = false) ∧ (FloatKind.f64.format.read 4607182418800017408).isZero = false := by decide +kernel
theorem inv_ok {a : Nat} (h : FloatKind.f64.format.order a a ≠ none) : (floatBits .quo .f64 4607182418800017408 a).isSome = true := by
  unfold floatBits Ieee.Format.div
  have h1 := one_read
  simp only [Option.isSome_map]
  unfold Ieee.Format.order at h
  generalize FloatKind.f64.format.read 4607182418800017408 = o at h1 ⊢
  generalize FloatKind.f64.format.read a = d at h ⊢
  cases o with
  | nan s t => exact absurd h1.1.1 (by simp [Ieee.Datum.isNaN])
  | infinity s => exact absurd h1.1.2 (by simp [Ieee.Datum.isInfinity])
  | number s m e =>
    have hm : m ≠ 0 := by
      rintro rfl
      exact absurd h1.2 (by simp [Ieee.Datum.isZero])
    cases d with
    | nan s t => exact absurd rfl h
    | infinity s => rfl
    | number t n j =>
      unfold Ieee.Datum.quotient
      simp only
      split
      · first | rfl | (rw [if_neg hm]; rfl)
      · rfl
/-- Two floats that pass for the same: both are no numbers, or their bits are the same and it is a number. -/
def Same (a b : Nat) : Prop := (FloatKind.f64.format.order a a = none ∧ FloatKind.f64.format.order b b = none) ∨ a = b
theorem Same.refl (a : Nat) : Same a a := Or.inr rfl
theorem sameFloat_eq {k a b : Nat} (hk : 0 < k) (h : Same a b) : laws_sameFloat.f k a b = some true := by
  obtain ⟨k, rfl⟩ : ∃ m, k = m + 1 := ⟨k - 1, by omega⟩
  unfold laws_sameFloat.f
  have nn : ∀ x y : Nat, FloatKind.f64.format.order x x = none → FloatKind.f64.format.order y y = none → (if (FloatKind.f64.format.order x x != some .eq) = true then (laws_sameFloat.j0 (k + 1) x y true) else (laws_sameFloat.j0 (k + 1) x y (FloatKind.f64.format.order y y != some .eq))) = some true := by
    intro x y h1 h2
    rw [h1, h2, if_pos (by rfl)]
    simp [laws_sameFloat.j0, h1, h2]
  rcases h with ⟨h1, h2⟩ | rfl
  · exact nn a b h1 h2
  · rcases ord_self .f64 a with h1 | h1
    · exact nn a a h1 h1
    · have hi := inv_ok (a := a) (by rw [h1]; simp)
      rw [h1, if_neg (by decide)]
      simp only [laws_sameFloat.j0, hi, if_true, beq_self_eq_true, h1]
      rw [if_neg (by decide)]
      split <;> rfl
theorem eqPh_eq {k a0 a1 b0 b1 : Nat} (hk : 0 < k) (h0 : Same a0 b0) (h1 : Same a1 b1) : laws_eqPhasor.f k a0 a1 b0 b1 = some true := by
  unfold laws_eqPhasor.f
  rw [sameFloat_eq hk h0, Option.bind_some, if_pos rfl, sameFloat_eq hk h1, Option.bind_some, if_pos rfl]


end Go.Proofs.Ythjlapmjpjpgeaa.M
namespace Go.Proofs.Ythjlapmjpjpgeaa.M
set_option linter.unusedSimpArgs false
set_option linter.unusedVariables false
open Go.RowKit Go.Proofs.YthjlapmjpjpgeaaW.PrintWords Go.Proofs.Ythjlapmjpjpgeaa.Sq

/-- The same world, or the same after a draw. -/
def Quiet (W w1 : World) : Prop := w1 = W ∨ w1 = W.drew
theorem Quiet.heap {W w1 : World} (h : Quiet W w1) : w1.heap = W.heap := by
  rcases h with rfl | rfl <;> rfl
theorem Quiet.below {W w1 : World} (h : Quiet W w1) : Below W.heap.size W w1 := by
  rcases h with rfl | rfl
  · exact Below.refl _ _
  · exact below_drew1 (Below.refl _ _)
/-- The answer of '+', '-', '*', '/': the bits that the operands fix, or no number where the operation is invalid. -/
def FR (op : BinOp) (x y r : Nat) : Prop := floatBits op .f64 x y = some r ∨ (floatBits op .f64 x y = none ∧ FloatKind.f64.format.order r r = none)

theorem sw64 : FloatKind.f64.format.signWeight = 9223372036854775808 := by decide +kernel
theorem bi64 : FloatKind.f64.format.binade = 4503599627370496 := by decide +kernel
theorem in64 : FloatKind.f64.format.infRung = 9218868437227405312 := by decide +kernel
theorem nan_drawn (t : Nat) : FloatKind.f64.format.order ((t % 2) * 2 ^ 63 + 0x7ff0000000000000 + 1 + (t / 2) % (2 ^ 52 - 1)) ((t % 2) * 2 ^ 63 + 0x7ff0000000000000 + 1 + (t / 2) % (2 ^ 52 - 1)) = none := by
  have h : ∀ n, 9218868437227405312 < n % 9223372036854775808 → FloatKind.f64.format.order n n = none := by
    intro n hn
    unfold Ieee.Format.order Ieee.Format.read
    rw [sw64, bi64, in64]
    simp only
    rw [if_neg (by omega), if_neg (by omega), if_neg (by omega)]
    rfl
  apply h
  have h1 : (t / 2) % (2 ^ 52 - 1) < 2 ^ 52 - 1 := Nat.mod_lt _ (by decide)
  have h2 : t % 2 < 2 := Nat.mod_lt _ (by decide)
  generalize (t / 2) % (2 ^ 52 - 1) = q at h1 ⊢
  generalize t % 2 = s at h2 ⊢
  simp only [Nat.reducePow, Nat.reduceSub] at h1 ⊢
  omega
theorem fl_run {P : Program} (op : BinOp) (t : TypeId) (x y : Nat) (W : World) (hop : op = .add ∨ op = .sub ∨ op = .mul ∨ op = .quo) :
    ∃ r w1, (binOp op t (.float .f64 x) (.float .f64 y)).run P W = .ok (.float .f64 r) w1 ∧ FR op x y r ∧ Quiet W w1 := by
  cases hf : floatBits op .f64 x y with
  | some r => exact ⟨r, W, run_float_arith W op t .f64 x y r hf, Or.inl hf, Or.inl rfl⟩
  | none =>
    refine ⟨_, W.drew, ?_, Or.inr ⟨hf, nan_drawn (W.tape W.drawn (.nanBits .f64 x y))⟩, Or.inr rfl⟩
    rcases hop with rfl | rfl | rfl | rfl <;> (unfold floatBits at hf; simp only at hf; simp [binOp, Op.floatArith, hf, Question.forced, Question.cut])
theorem fl_event {P : Program} {ops : Array Oper} {rest : List Oper} {o : Oper} {a : Act} {Q : Exit → Act → World → Prop} {W : World} {k : FloatKind} {R : Nat → Prop} (hgd : o.guard = none) {N : Tmp} (_hd : o.dst = some N)
    (hrun : ∃ r w1, (execOp a.eval o).run P W = .ok (.value (.float k r)) w1 ∧ R r ∧ Quiet W w1)
    (h : ∀ r w1, R r → Below W.heap.size W w1 → wpList P ops Q rest (a.put o.dst (.float k r)) w1) : wpList P ops Q (o :: rest) a W := by
  obtain ⟨r, w1, hr, hR, hq⟩ := hrun
  exact Kd.event_run hgd hr (h r w1 hR (Quiet.below hq))
theorem fl_step {P : Program} {ops : Array Oper} {o : Oper} {a : Act} {Q : Exit → Act → World → Prop} {Kc : Act → World → Prop} {W : World} {k : FloatKind} {R : Nat → Prop} (hw : Region.wanted o (yielded ops a.tmps) = true) {N : Tmp} (_hd : o.dst = some N)
    (hrun : ∃ r w1, (execOp a.eval o).run P W = .ok (.value (.float k r)) w1 ∧ R r ∧ Quiet W w1)
    (h : ∀ r w1, R r → Quiet W w1 → Kc (a.put o.dst (.float k r)) w1) : if Region.wanted o (yielded ops a.tmps) = true then Oper.wp P o a W Kc Q else Kc (a.put o.dst undef) W := by
  obtain ⟨r, w1, hr, hR, hq⟩ := hrun
  exact event_step hw hr (h r w1 hR hq)
theorem cell_heap {w W : World} (h : w.heap = W.heap) (p : Addr) : w.cell? p = W.cell? p := by
  unfold World.cell?
  rw [h]
theorem nan_left {op : BinOp} {x y : Nat} (h : FloatKind.f64.format.order x x = none) : floatBits op .f64 x y = none := by
  unfold Ieee.Format.order at h
  have hn : ∃ s t, FloatKind.f64.format.read x = .nan s t := by
    cases hx : FloatKind.f64.format.read x with
    | number s m e => rw [hx] at h; simp [Ieee.Datum.order] at h
    | infinity s => rw [hx] at h; simp [Ieee.Datum.order] at h
    | nan s t => exact ⟨s, t, rfl⟩
  obtain ⟨s, t, hx⟩ := hn
  unfold floatBits
  cases op <;> simp only [Ieee.Format.add, Ieee.Format.sub, Ieee.Format.mul, Ieee.Format.div, hx] <;> rfl
theorem nan_right {op : BinOp} {x y : Nat} (h : FloatKind.f64.format.order y y = none) : floatBits op .f64 x y = none := by
  unfold Ieee.Format.order at h
  have hn : ∃ s t, FloatKind.f64.format.read y = .nan s t := by
    cases hx : FloatKind.f64.format.read y with
    | number s m e => rw [hx] at h; simp [Ieee.Datum.order] at h
    | infinity s => rw [hx] at h; simp [Ieee.Datum.order] at h
    | nan s t => exact ⟨s, t, rfl⟩
  obtain ⟨s, t, hx⟩ := hn
  unfold floatBits
  cases op <;> simp only [Ieee.Format.add, Ieee.Format.sub, Ieee.Format.mul, Ieee.Format.div, hx] <;> (cases FloatKind.f64.format.read x <;> rfl)
theorem FR.same {op : BinOp} {x y r x' y' r' : Nat} (h : FR op x y r) (h' : FR op x' y' r') (hx : Same x x') (hy : Same y y') : Same r r' := by
  have nn : floatBits op .f64 x y = none → floatBits op .f64 x' y' = none → Same r r' := by
    intro a b
    rcases h with h | ⟨_, h⟩
    · rw [a] at h; cases h
    · rcases h' with h' | ⟨_, h'⟩
      · rw [b] at h'; cases h'
      · exact Or.inl ⟨h, h'⟩
  rcases hx with ⟨h1, h2⟩ | rfl
  · exact nn (nan_left h1) (nan_left h2)
  · rcases hy with ⟨h1, h2⟩ | rfl
    · exact nn (nan_right h1) (nan_right h2)
    · rcases h with h | ⟨h0, h⟩
      · rcases h' with h' | ⟨h0', h'⟩
        · exact Or.inr (Option.some.inj (h.symm.trans h'))
        · rw [h0'] at h; cases h
      · exact nn h0 h0
/-- The product of two phasors, each part to its bits or to no number. -/
def PT (a b c d p q : Nat) : Prop := ∃ w x y z, FR .mul a c w ∧ FR .mul b d x ∧ FR .mul a d y ∧ FR .mul b c z ∧ FR .sub w x p ∧ FR .add y z q
theorem PT.same {a b c d p q p' q' : Nat} (h : PT a b c d p q) (h' : PT a b c d p' q') : Same p p' ∧ Same q q' := by
  obtain ⟨w, x, y, z, h1, h2, h3, h4, h5, h6⟩ := h
  obtain ⟨w', x', y', z', g1, g2, g3, g4, g5, g6⟩ := h'
  have r := Same.refl
  exact ⟨FR.same h5 g5 (FR.same h1 g1 (r _) (r _)) (FR.same h2 g2 (r _) (r _)), FR.same h6 g6 (FR.same h3 g3 (r _) (r _)) (FR.same h4 g4 (r _) (r _))⟩


end Go.Proofs.Ythjlapmjpjpgeaa.M
namespace Go.Proofs.Ythjlapmjpjpgeaa.M
set_option linter.unusedSimpArgs false
set_option linter.unusedVariables false
open Go.RowKit Go.Proofs.YthjlapmjpjpgeaaW.PrintWords Go.Proofs.YthjlapmjpjpgeaaW.PrintLast Go.Proofs.YthjlapmjpjpgeaaW.PrintMore Go.Proofs.Ythjlapmjpjpgeaa.Sq
attribute [local go_sem] run_store_float

set_option maxHeartbeats 8000000 in
set_option maxRecDepth 100000 in
theorem spec_PhTimes.callsN (a b c d : Nat) (w : World) :
    Calls Try.prog 22 #[.agg #[.float .f64 a, .float .f64 b], .agg #[.float .f64 c, .float .f64 d]] w fun e w' => ∃ p q, PT a b c d p q ∧ e = .returned (.agg #[.float .f64 p, .float .f64 q]) ∧ Below w.heap.size w w' := by
  have hu26 := Try.underlying26
  have hu28 := Try.underlying28
  have HB := Aside0.mk (Below.refl w.heap.size w)
  go_enter Try.func22, Try.ntmps22
  go_wp2_with (first | ((with_reducible refine gate_dst (N := 2) rfl ?_); refine box_event ?hg (N := 2) ?hd (cs := #[.float .f64 a, .float .f64 b]) (t := 28) ?hr ?_; (case hd => rfl); (case hg => rfl); (case hr => first | (go_simp; done) | (go_simp; rfl)); intro gb1 hg w1 hbox hb; have GE1 := Aside0.mk ((by rw [hg]; exact below_size HB.out) : w.heap.size ≤ gb1); replace HB := Aside0.mk (below_step HB.out hb); have BK1 := Aside0.mk hbox; obtain ⟨z2_1_0, z2_1_1, y2_1_0, y2_1_1⟩ := cs2_ BK1.out; clear hb hbox hg) | ((with_reducible refine gate_dst (N := 3) rfl ?_); refine box_event ?hg (N := 3) ?hd (cs := #[.float .f64 c, .float .f64 d]) (t := 28) ?hr ?_; (case hd => rfl); (case hg => rfl); (case hr => first | (go_simp; done) | (go_simp; rfl)); intro gb2 hg w3 hbox hb; have GE2 := Aside0.mk ((by rw [hg]; exact below_size HB.out) : w.heap.size ≤ gb2); have NB1_2 := Aside0.mk ((by rw [hg]; exact Nat.ne_of_lt (blk_lt BK1.out)) : gb1 ≠ gb2); have NB2_1 := Aside0.mk ((by rw [hg]; exact Nat.ne_of_gt (blk_lt BK1.out)) : gb2 ≠ gb1); have BE1 := Aside0.mk (blk_below BK1.out hb); replace HB := Aside0.mk (below_step HB.out hb); replace BK1 := BE1; clear BE1; have BK2 := Aside0.mk hbox; obtain ⟨z4_1_0, z4_1_1, y4_1_0, y4_1_1⟩ := cs2_ BK1.out; obtain ⟨z4_2_0, z4_2_1, y4_2_0, y4_2_1⟩ := cs2_ BK2.out; have x4_1_2 := NB1_2.out; have x4_2_1 := NB2_1.out; clear hb hbox hg) | ((with_reducible refine gate_dst (N := 4) rfl ?_); refine box_event ?hg (N := 4) ?hd (cs := #[.float .f64 0, .float .f64 0]) (t := 28) ?hr ?_; (case hd => rfl); (case hg => rfl); (case hr => first | (go_simp; done) | (go_simp; rfl)); intro gb3 hg w5 hbox hb; have GE3 := Aside0.mk ((by rw [hg]; exact below_size HB.out) : w.heap.size ≤ gb3); have NB1_3 := Aside0.mk ((by rw [hg]; exact Nat.ne_of_lt (blk_lt BK1.out)) : gb1 ≠ gb3); have NB3_1 := Aside0.mk ((by rw [hg]; exact Nat.ne_of_gt (blk_lt BK1.out)) : gb3 ≠ gb1); have NB2_3 := Aside0.mk ((by rw [hg]; exact Nat.ne_of_lt (blk_lt BK2.out)) : gb2 ≠ gb3); have NB3_2 := Aside0.mk ((by rw [hg]; exact Nat.ne_of_gt (blk_lt BK2.out)) : gb3 ≠ gb2); have BE1 := Aside0.mk (blk_below BK1.out hb); have BE2 := Aside0.mk (blk_below BK2.out hb); replace HB := Aside0.mk (below_step HB.out hb); replace BK1 := BE1; replace BK2 := BE2; clear BE1 BE2; have BK3 := Aside0.mk hbox; obtain ⟨z6_1_0, z6_1_1, y6_1_0, y6_1_1⟩ := cs2_ BK1.out; obtain ⟨z6_2_0, z6_2_1, y6_2_0, y6_2_1⟩ := cs2_ BK2.out; obtain ⟨z6_3_0, z6_3_1, y6_3_0, y6_3_1⟩ := cs2_ BK3.out; have x6_1_2 := NB1_2.out; have x6_1_3 := NB1_3.out; have x6_2_1 := NB2_1.out; have x6_2_3 := NB2_3.out; have x6_3_1 := NB3_1.out; have x6_3_2 := NB3_2.out; clear hb hbox hg) | ((with_reducible refine gate_dst (N := 13) rfl ?_); refine fl_event (k := .f64) (R := FR .mul a c) ?hg (N := 13) ?hd ?hr ?_; (case hd => rfl); (case hg => rfl); (case hr => obtain ⟨r_, w_, hc_, hR_, hq_⟩ := fl_run (P := Try.prog) .mul 26 a c _ (by simp); exact ⟨r_, w_, by first | (go_simp; done) | (go_simp; rfl), hR_, hq_⟩); intro r1 w7 hr1 hb; replace BK1 := Aside0.mk (blk_below BK1.out hb); replace BK2 := Aside0.mk (blk_below BK2.out hb); replace BK3 := Aside0.mk (blk_below BK3.out hb); replace HB := Aside0.mk (below_step HB.out hb); obtain ⟨z8_1_0, z8_1_1, y8_1_0, y8_1_1⟩ := cs2_ BK1.out; obtain ⟨z8_2_0, z8_2_1, y8_2_0, y8_2_1⟩ := cs2_ BK2.out; obtain ⟨z8_3_0, z8_3_1, y8_3_0, y8_3_1⟩ := cs2_ BK3.out; clear hb) | ((with_reducible refine gate_dst (N := 18) rfl ?_); refine fl_event (k := .f64) (R := FR .mul b d) ?hg (N := 18) ?hd ?hr ?_; (case hd => rfl); (case hg => rfl); (case hr => obtain ⟨r_, w_, hc_, hR_, hq_⟩ := fl_run (P := Try.prog) .mul 26 b d _ (by simp); exact ⟨r_, w_, by first | (go_simp; done) | (go_simp; rfl), hR_, hq_⟩); intro r2 w9 hr2 hb; replace BK1 := Aside0.mk (blk_below BK1.out hb); replace BK2 := Aside0.mk (blk_below BK2.out hb); replace BK3 := Aside0.mk (blk_below BK3.out hb); replace HB := Aside0.mk (below_step HB.out hb); obtain ⟨z10_1_0, z10_1_1, y10_1_0, y10_1_1⟩ := cs2_ BK1.out; obtain ⟨z10_2_0, z10_2_1, y10_2_0, y10_2_1⟩ := cs2_ BK2.out; obtain ⟨z10_3_0, z10_3_1, y10_3_0, y10_3_1⟩ := cs2_ BK3.out; clear hb) | ((with_reducible refine gate_dst (N := 23) rfl ?_); refine fl_event (k := .f64) (R := FR .mul a d) ?hg (N := 23) ?hd ?hr ?_; (case hd => rfl); (case hg => rfl); (case hr => obtain ⟨r_, w_, hc_, hR_, hq_⟩ := fl_run (P := Try.prog) .mul 26 a d _ (by simp); exact ⟨r_, w_, by first | (go_simp; done) | (go_simp; rfl), hR_, hq_⟩); intro r3 w11 hr3 hb; replace BK1 := Aside0.mk (blk_below BK1.out hb); replace BK2 := Aside0.mk (blk_below BK2.out hb); replace BK3 := Aside0.mk (blk_below BK3.out hb); replace HB := Aside0.mk (below_step HB.out hb); obtain ⟨z12_1_0, z12_1_1, y12_1_0, y12_1_1⟩ := cs2_ BK1.out; obtain ⟨z12_2_0, z12_2_1, y12_2_0, y12_2_1⟩ := cs2_ BK2.out; obtain ⟨z12_3_0, z12_3_1, y12_3_0, y12_3_1⟩ := cs2_ BK3.out; clear hb) | ((with_reducible refine gate_dst (N := 28) rfl ?_); refine fl_event (k := .f64) (R := FR .mul b c) ?hg (N := 28) ?hd ?hr ?_; (case hd => rfl); (case hg => rfl); (case hr => obtain ⟨r_, w_, hc_, hR_, hq_⟩ := fl_run (P := Try.prog) .mul 26 b c _ (by simp); exact ⟨r_, w_, by first | (go_simp; done) | (go_simp; rfl), hR_, hq_⟩); intro r4 w13 hr4 hb; replace BK1 := Aside0.mk (blk_below BK1.out hb); replace BK2 := Aside0.mk (blk_below BK2.out hb); replace BK3 := Aside0.mk (blk_below BK3.out hb); replace HB := Aside0.mk (below_step HB.out hb); obtain ⟨z14_1_0, z14_1_1, y14_1_0, y14_1_1⟩ := cs2_ BK1.out; obtain ⟨z14_2_0, z14_2_1, y14_2_0, y14_2_1⟩ := cs2_ BK2.out; obtain ⟨z14_3_0, z14_3_1, y14_3_0, y14_3_1⟩ := cs2_ BK3.out; clear hb) | ((with_reducible refine gate_dst (N := 31) rfl ?_); refine fl_event (k := .f64) (R := FR .sub r1 r2) ?hg (N := 31) ?hd ?hr ?_; (case hd => rfl); (case hg => rfl); (case hr => obtain ⟨r_, w_, hc_, hR_, hq_⟩ := fl_run (P := Try.prog) .sub 26 r1 r2 _ (by simp); exact ⟨r_, w_, by first | (go_simp; done) | (go_simp; rfl), hR_, hq_⟩); intro p w15 hp hb; replace BK1 := Aside0.mk (blk_below BK1.out hb); replace BK2 := Aside0.mk (blk_below BK2.out hb); replace BK3 := Aside0.mk (blk_below BK3.out hb); replace HB := Aside0.mk (below_step HB.out hb); obtain ⟨z16_1_0, z16_1_1, y16_1_0, y16_1_1⟩ := cs2_ BK1.out; obtain ⟨z16_2_0, z16_2_1, y16_2_0, y16_2_1⟩ := cs2_ BK2.out; obtain ⟨z16_3_0, z16_3_1, y16_3_0, y16_3_1⟩ := cs2_ BK3.out; clear hb) | ((with_reducible refine gate_dst (N := 34) rfl ?_); refine fl_event (k := .f64) (R := FR .add r3 r4) ?hg (N := 34) ?hd ?hr ?_; (case hd => rfl); (case hg => rfl); (case hr => obtain ⟨r_, w_, hc_, hR_, hq_⟩ := fl_run (P := Try.prog) .add 26 r3 r4 _ (by simp); exact ⟨r_, w_, by first | (go_simp; done) | (go_simp; rfl), hR_, hq_⟩); intro q w17 hq hb; replace BK1 := Aside0.mk (blk_below BK1.out hb); replace BK2 := Aside0.mk (blk_below BK2.out hb); replace BK3 := Aside0.mk (blk_below BK3.out hb); replace HB := Aside0.mk (below_step HB.out hb); obtain ⟨z18_1_0, z18_1_1, y18_1_0, y18_1_1⟩ := cs2_ BK1.out; obtain ⟨z18_2_0, z18_2_1, y18_2_0, y18_2_1⟩ := cs2_ BK2.out; obtain ⟨z18_3_0, z18_3_1, y18_3_0, y18_3_1⟩ := cs2_ BK3.out; clear hb))
  refine bodyPost_ret (results_cell_row rfl _ _ gb3 28 #[.float .f64 p, .float .f64 q] (0, 0) _ rfl (by (with_reducible repeat (first | refine blk_drewN ?_ _ | refine blk_drew ?_ | refine blk_alloc ?_ _)); refine blk_put (cs := #[.float .f64 p, .float .f64 0]) ?_ 1 _ rfl; (with_reducible repeat (first | refine blk_drewN ?_ _ | refine blk_drew ?_ | refine blk_alloc ?_ _)); refine blk_put (cs := #[.float .f64 0, .float .f64 0]) ?_ 0 _ rfl; (with_reducible repeat (first | refine blk_drewN ?_ _ | refine blk_drew ?_ | refine blk_alloc ?_ _)); exact BK3.out) Try.underlying28 rfl (by kernel_rfl)) rfl ?_
  exact ⟨p, q, ⟨r1, r2, r3, r4, hr1, hr2, hr3, hr4, hp, hq⟩, rfl, (by repeat (first | (with_reducible first | exact HB.out | apply below_alloc | apply pw_below_drewN | apply below_drew1 | refine below_set ?_ GE1.out | refine below_set ?_ GE2.out | refine below_set ?_ GE3.out) | exact HB.out))⟩
set_option maxHeartbeats 8000000 in
set_option maxRecDepth 100000 in
theorem impl_PhTimes.callsN (a b c d : Nat) (w : World) :
    Calls Try.prog 23 #[.agg #[.float .f64 a, .float .f64 b], .agg #[.float .f64 c, .float .f64 d]] w fun e w' => ∃ p q, PT a b c d p q ∧ e = .returned (.agg #[.float .f64 p, .float .f64 q]) ∧ Below w.heap.size w w' := by
  have hu26 := Try.underlying26
  have hu28 := Try.underlying28
  have HB := Aside0.mk (Below.refl w.heap.size w)
  go_enter Try.func23, Try.ntmps23
  go_wp2_with (first | ((with_reducible refine gate_dst (N := 2) rfl ?_); refine box_event ?hg (N := 2) ?hd (cs := #[.float .f64 a, .float .f64 b]) (t := 28) ?hr ?_; (case hd => rfl); (case hg => rfl); (case hr => first | (go_simp; done) | (go_simp; rfl)); intro gb1 hg w1 hbox hb; have GE1 := Aside0.mk ((by rw [hg]; exact below_size HB.out) : w.heap.size ≤ gb1); replace HB := Aside0.mk (below_step HB.out hb); have BK1 := Aside0.mk hbox; obtain ⟨z2_1_0, z2_1_1, y2_1_0, y2_1_1⟩ := cs2_ BK1.out; clear hb hbox hg) | ((with_reducible refine gate_dst (N := 3) rfl ?_); refine box_event ?hg (N := 3) ?hd (cs := #[.float .f64 c, .float .f64 d]) (t := 28) ?hr ?_; (case hd => rfl); (case hg => rfl); (case hr => first | (go_simp; done) | (go_simp; rfl)); intro gb2 hg w3 hbox hb; have GE2 := Aside0.mk ((by rw [hg]; exact below_size HB.out) : w.heap.size ≤ gb2); have NB1_2 := Aside0.mk ((by rw [hg]; exact Nat.ne_of_lt (blk_lt BK1.out)) : gb1 ≠ gb2); have NB2_1 := Aside0.mk ((by rw [hg]; exact Nat.ne_of_gt (blk_lt BK1.out)) : gb2 ≠ gb1); have BE1 := Aside0.mk (blk_below BK1.out hb); replace HB := Aside0.mk (below_step HB.out hb); replace BK1 := BE1; clear BE1; have BK2 := Aside0.mk hbox; obtain ⟨z4_1_0, z4_1_1, y4_1_0, y4_1_1⟩ := cs2_ BK1.out; obtain ⟨z4_2_0, z4_2_1, y4_2_0, y4_2_1⟩ := cs2_ BK2.out; have x4_1_2 := NB1_2.out; have x4_2_1 := NB2_1.out; clear hb hbox hg) | ((with_reducible refine gate_dst (N := 4) rfl ?_); refine box_event ?hg (N := 4) ?hd (cs := #[.float .f64 0, .float .f64 0]) (t := 28) ?hr ?_; (case hd => rfl); (case hg => rfl); (case hr => first | (go_simp; done) | (go_simp; rfl)); intro gb3 hg w5 hbox hb; have GE3 := Aside0.mk ((by rw [hg]; exact below_size HB.out) : w.heap.size ≤ gb3); have NB1_3 := Aside0.mk ((by rw [hg]; exact Nat.ne_of_lt (blk_lt BK1.out)) : gb1 ≠ gb3); have NB3_1 := Aside0.mk ((by rw [hg]; exact Nat.ne_of_gt (blk_lt BK1.out)) : gb3 ≠ gb1); have NB2_3 := Aside0.mk ((by rw [hg]; exact Nat.ne_of_lt (blk_lt BK2.out)) : gb2 ≠ gb3); have NB3_2 := Aside0.mk ((by rw [hg]; exact Nat.ne_of_gt (blk_lt BK2.out)) : gb3 ≠ gb2); have BE1 := Aside0.mk (blk_below BK1.out hb); have BE2 := Aside0.mk (blk_below BK2.out hb); replace HB := Aside0.mk (below_step HB.out hb); replace BK1 := BE1; replace BK2 := BE2; clear BE1 BE2; have BK3 := Aside0.mk hbox; obtain ⟨z6_1_0, z6_1_1, y6_1_0, y6_1_1⟩ := cs2_ BK1.out; obtain ⟨z6_2_0, z6_2_1, y6_2_0, y6_2_1⟩ := cs2_ BK2.out; obtain ⟨z6_3_0, z6_3_1, y6_3_0, y6_3_1⟩ := cs2_ BK3.out; have x6_1_2 := NB1_2.out; have x6_1_3 := NB1_3.out; have x6_2_1 := NB2_1.out; have x6_2_3 := NB2_3.out; have x6_3_1 := NB3_1.out; have x6_3_2 := NB3_2.out; clear hb hbox hg))
  refine start_ (n := 12) (S := fun w' => w'.heap = w5.heap) (ds := []) #[false, false, false, false, false, false, false, false, false, false, false, false] (by kernel_rfl) rfl rfl rfl (fun hHeld => ?_)
  have HD := Aside0.mk (below_drew1 HB.out)
  generalize w5.drew = wr1 at HD hHeld ⊢
  obtain ⟨cx1_0, cx1_1, _, _⟩ := cs2_ BK1.out
  obtain ⟨cx2_0, cx2_1, _, _⟩ := cs2_ BK2.out
  obtain ⟨cx3_0, cx3_1, _, _⟩ := cs2_ BK3.out
  refine pure_ (i := 0) (N := some 9) (v := ?_) (a' := ?_) #[true, false, false, false, false, false, false, false, false, false, false, false] rfl rfl (by kernel_rfl) (fun _ _ _ h => h) (Or.inl ⟨by rfl, ?_⟩) ?_ ?_
  rotate_left
  · intro w'
    go_simp
    with_reducible rfl
  rotate_left
  · simp only [Act.put, sx_, sy_, sz_]
    rfl
  refine take_ (i := 1) (N := some 10) (v := ?_) (a' := ?_) #[true, true, false, false, false, false, false, false, false, false, false, false] rfl rfl (by kernel_rfl) (fun _ _ _ h => h) (Or.inl ⟨by rfl, ?_⟩) hHeld ?_ ?_
  rotate_left
  · intro w' hs
    have s0 := (cell_heap hs ⟨gb1, 0, none⟩).trans cx1_0
    go_simp
    with_reducible rfl
  rotate_left
  · simp only [Act.put, sx_, sy_, sz_]
    rfl
  refine pure_ (i := 2) (N := some 11) (v := ?_) (a' := ?_) #[true, true, true, false, false, false, false, false, false, false, false, false] rfl rfl (by kernel_rfl) (fun _ _ _ h => h) (Or.inl ⟨by rfl, ?_⟩) ?_ ?_
  rotate_left
  · intro w'
    go_simp
    with_reducible rfl
  rotate_left
  · simp only [Act.put, sx_, sy_, sz_]
    rfl
  refine take_ (i := 3) (N := some 12) (v := ?_) (a' := ?_) #[true, true, true, true, false, false, false, false, false, false, false, false] rfl rfl (by kernel_rfl) (fun _ _ _ h => h) (Or.inl ⟨by rfl, ?_⟩) hHeld ?_ ?_
  rotate_left
  · intro w' hs
    have s0 := (cell_heap hs ⟨gb2, 0, none⟩).trans cx2_0
    go_simp
    with_reducible rfl
  rotate_left
  · simp only [Act.put, sx_, sy_, sz_]
    rfl
  refine pure_ (i := 5) (N := some 14) (v := ?_) (a' := ?_) #[true, true, true, true, false, true, false, false, false, false, false, false] rfl rfl (by kernel_rfl) (fun _ _ _ h => h) (Or.inl ⟨by rfl, ?_⟩) ?_ ?_
  rotate_left
  · intro w'
    go_simp
    with_reducible rfl
  rotate_left
  · simp only [Act.put, sx_, sy_, sz_]
    rfl
  refine take_ (i := 6) (N := some 15) (v := ?_) (a' := ?_) #[true, true, true, true, false, true, true, false, false, false, false, false] rfl rfl (by kernel_rfl) (fun _ _ _ h => h) (Or.inl ⟨by rfl, ?_⟩) hHeld ?_ ?_
  rotate_left
  · intro w' hs
    have s0 := (cell_heap hs ⟨gb1, 1, none⟩).trans cx1_1
    go_simp
    with_reducible rfl
  rotate_left
  · simp only [Act.put, sx_, sy_, sz_]
    rfl
  refine pure_ (i := 7) (N := some 16) (v := ?_) (a' := ?_) #[true, true, true, true, false, true, true, true, false, false, false, false] rfl rfl (by kernel_rfl) (fun _ _ _ h => h) (Or.inl ⟨by rfl, ?_⟩) ?_ ?_
  rotate_left
  · intro w'
    go_simp
    with_reducible rfl
  rotate_left
  · simp only [Act.put, sx_, sy_, sz_]
    rfl
  refine take_ (i := 8) (N := some 17) (v := ?_) (a' := ?_) #[true, true, true, true, false, true, true, true, true, false, false, false] rfl rfl (by kernel_rfl) (fun _ _ _ h => h) (Or.inl ⟨by rfl, ?_⟩) hHeld ?_ ?_
  rotate_left
  · intro w' hs
    have s0 := (cell_heap hs ⟨gb2, 1, none⟩).trans cx2_1
    go_simp
    with_reducible rfl
  rotate_left
  · simp only [Act.put, sx_, sy_, sz_]
    rfl
  refine join_ (σ := Nat × Nat) 0 #[true, true, true, true, true, true, true, true, true, true, true, true] (fun s_ => [(13, .float .f64 s_.1), (18, .float .f64 s_.2), (5, .float .f64 s_.1), (6, .float .f64 s_.2)]) (fun s_ w' => FR .mul a c s_.1 ∧ FR .mul b d s_.2 ∧ w'.heap = w5.heap ∧ Below w.heap.size w w') ?_ ?_
  rotate_left
  · intro hCont
    refine two_ (i := 4) (j := 9) (Ni := some 13) (Nj := some 18) #[true, true, true, true, true, true, true, true, true, false, false, false] #[true, true, true, true, false, true, true, true, true, true, false, false] rfl rfl rfl rfl (by kernel_rfl) (by decide) (by decide) (fun K hK => ?_) (fun K hK => ?_)
    · refine fl_step (k := .f64) (R := FR .mul a c) ?hw (N := 13) ?hd ?hr ?_
      (case hw => rfl)
      (case hd => rfl)
      (case hr => obtain ⟨r_, w_, hc_, hR_, hq_⟩ := fl_run (P := Try.prog) .mul 26 a c _ (by simp); exact ⟨r_, w_, by first | (go_simp; done) | (go_simp; rfl), hR_, hq_⟩)
      intro r1 wa h1 qa
      have ea := (Quiet.heap qa).trans hHeld
      have HA := below_step HD.out (Quiet.below qa)
      refine hK.out _ _ ea (fun _ => ?_)
      clear hK K
      refine norm_ (a' := ?_) ?_ ?_
      rotate_left
      · show Act.put _ (some 13) _ = _
        simp only [Act.put, sx_, sy_, sz_]
        rfl
      refine pure_ (i := 10) (N := some 5) (v := ?_) (a' := ?_) #[true, true, true, true, true, true, true, true, true, false, true, false] rfl rfl (by kernel_rfl) (fun _ _ _ h => h) (Or.inl ⟨by rfl, ?_⟩) ?_ ?_
      rotate_left
      · intro w'
        go_simp
        with_reducible rfl
      rotate_left
      · simp only [Act.put, sx_, sy_, sz_]
        rfl
      refine one_ (i := 9) (N := some 18) #[true, true, true, true, true, true, true, true, true, true, true, false] rfl rfl (by kernel_rfl) (by decide) (fun K hK => ?_)
      refine fl_step (k := .f64) (R := FR .mul b d) ?hw (N := 18) ?hd ?hr ?_
      (case hw => rfl)
      (case hd => rfl)
      (case hr => obtain ⟨r_, w_, hc_, hR_, hq_⟩ := fl_run (P := Try.prog) .mul 26 b d _ (by simp); exact ⟨r_, w_, by first | (go_simp; done) | (go_simp; rfl), hR_, hq_⟩)
      intro r2 wb h2 qb
      have eb := (Quiet.heap qb).trans ea
      have HE := below_step HA (Quiet.below qb)
      refine hK.out _ _ eb (fun _ => ?_)
      clear hK K
      refine norm_ (a' := ?_) ?_ ?_
      rotate_left
      · show Act.put _ (some 18) _ = _
        simp only [Act.put, sx_, sy_, sz_]
        rfl
      refine pure_ (i := 11) (N := some 6) (v := ?_) (a' := ?_) #[true, true, true, true, true, true, true, true, true, true, true, true] rfl rfl (by kernel_rfl) (fun _ _ _ h => h) (Or.inl ⟨by rfl, ?_⟩) ?_ ?_
      rotate_left
      · intro w'
        go_simp
        with_reducible rfl
      rotate_left
      · simp only [Act.put, sx_, sy_, sz_]
        rfl
      exact norm_ (by simp only [putAll, Act.put, sx_, sy_, sz_]) (hCont (r1, r2) _ ⟨h1, h2, eb, HE⟩)
    · refine fl_step (k := .f64) (R := FR .mul b d) ?hw (N := 18) ?hd ?hr ?_
      (case hw => rfl)
      (case hd => rfl)
      (case hr => obtain ⟨r_, w_, hc_, hR_, hq_⟩ := fl_run (P := Try.prog) .mul 26 b d _ (by simp); exact ⟨r_, w_, by first | (go_simp; done) | (go_simp; rfl), hR_, hq_⟩)
      intro r2 wa h2 qa
      have ea := (Quiet.heap qa).trans hHeld
      have HA := below_step HD.out (Quiet.below qa)
      refine hK.out _ _ ea (fun _ => ?_)
      clear hK K
      refine norm_ (a' := ?_) ?_ ?_
      rotate_left
      · show Act.put _ (some 18) _ = _
        simp only [Act.put, sx_, sy_, sz_]
        rfl
      refine one_ (i := 4) (N := some 13) #[true, true, true, true, true, true, true, true, true, true, false, false] rfl rfl (by kernel_rfl) (by decide) (fun K hK => ?_)
      refine fl_step (k := .f64) (R := FR .mul a c) ?hw (N := 13) ?hd ?hr ?_
      (case hw => rfl)
      (case hd => rfl)
      (case hr => obtain ⟨r_, w_, hc_, hR_, hq_⟩ := fl_run (P := Try.prog) .mul 26 a c _ (by simp); exact ⟨r_, w_, by first | (go_simp; done) | (go_simp; rfl), hR_, hq_⟩)
      intro r1 wb h1 qb
      have eb := (Quiet.heap qb).trans ea
      have HE := below_step HA (Quiet.below qb)
      refine hK.out _ _ eb (fun _ => ?_)
      clear hK K
      refine norm_ (a' := ?_) ?_ ?_
      rotate_left
      · show Act.put _ (some 13) _ = _
        simp only [Act.put, sx_, sy_, sz_]
        rfl
      refine pure_ (i := 10) (N := some 5) (v := ?_) (a' := ?_) #[true, true, true, true, true, true, true, true, true, true, true, false] rfl rfl (by kernel_rfl) (fun _ _ _ h => h) (Or.inl ⟨by rfl, ?_⟩) ?_ ?_
      rotate_left
      · intro w'
        go_simp
        with_reducible rfl
      rotate_left
      · simp only [Act.put, sx_, sy_, sz_]
        rfl
      refine pure_ (i := 11) (N := some 6) (v := ?_) (a' := ?_) #[true, true, true, true, true, true, true, true, true, true, true, true] rfl rfl (by kernel_rfl) (fun _ _ _ h => h) (Or.inl ⟨by rfl, ?_⟩) ?_ ?_
      rotate_left
      · intro w'
        go_simp
        with_reducible rfl
      rotate_left
      · simp only [Act.put, sx_, sy_, sz_]
        rfl
      exact norm_ (by simp only [putAll, Act.put, sx_, sy_, sz_]) (hCont (r1, r2) _ ⟨h1, h2, eb, HE⟩)
  rintro ⟨r1, r2⟩ wr2 ⟨hr1, hr2, hh, hb7⟩
  simp only at hr1 hr2
  refine norm_ (a' := ?_) ?_ ?_
  rotate_left
  · simp only [putAll, Act.put, sx_, sy_, sz_]
    rfl
  refine done_ (by kernel_rfl) ?_
  replace BK1 := Aside0.mk (show wr2.heap[gb1]? = some (.cells #[.float .f64 a, .float .f64 b] 28 (0, 0)) from by rw [hh]; exact BK1.out)
  replace BK2 := Aside0.mk (show wr2.heap[gb2]? = some (.cells #[.float .f64 c, .float .f64 d] 28 (0, 0)) from by rw [hh]; exact BK2.out)
  replace BK3 := Aside0.mk (show wr2.heap[gb3]? = some (.cells #[.float .f64 0, .float .f64 0] 28 (0, 0)) from by rw [hh]; exact BK3.out)
  replace HB := Aside0.mk hb7
  clear hb7 hh HD hHeld
  try go_wp2
  refine start_ (n := 12) (S := fun w' => w'.heap = wr2.heap) (ds := []) #[false, false, false, false, false, false, false, false, false, false, false, false] (by kernel_rfl) rfl rfl rfl (fun hHeld => ?_)
  have HD := Aside0.mk (below_drew1 HB.out)
  generalize wr2.drew = wr3 at HD hHeld ⊢
  obtain ⟨cy1_0, cy1_1, _, _⟩ := cs2_ BK1.out
  obtain ⟨cy2_0, cy2_1, _, _⟩ := cs2_ BK2.out
  obtain ⟨cy3_0, cy3_1, _, _⟩ := cs2_ BK3.out
  refine pure_ (i := 0) (N := some 19) (v := ?_) (a' := ?_) #[true, false, false, false, false, false, false, false, false, false, false, false] rfl rfl (by kernel_rfl) (fun _ _ _ h => h) (Or.inl ⟨by rfl, ?_⟩) ?_ ?_
  rotate_left
  · intro w'
    go_simp
    with_reducible rfl
  rotate_left
  · simp only [Act.put, sx_, sy_, sz_]
    rfl
  refine take_ (i := 1) (N := some 20) (v := ?_) (a' := ?_) #[true, true, false, false, false, false, false, false, false, false, false, false] rfl rfl (by kernel_rfl) (fun _ _ _ h => h) (Or.inl ⟨by rfl, ?_⟩) hHeld ?_ ?_
  rotate_left
  · intro w' hs
    have s0 := (cell_heap hs ⟨gb1, 0, none⟩).trans cy1_0
    go_simp
    with_reducible rfl
  rotate_left
  · simp only [Act.put, sx_, sy_, sz_]
    rfl
  refine pure_ (i := 2) (N := some 21) (v := ?_) (a' := ?_) #[true, true, true, false, false, false, false, false, false, false, false, false] rfl rfl (by kernel_rfl) (fun _ _ _ h => h) (Or.inl ⟨by rfl, ?_⟩) ?_ ?_
  rotate_left
  · intro w'
    go_simp
    with_reducible rfl
  rotate_left
  · simp only [Act.put, sx_, sy_, sz_]
    rfl
  refine take_ (i := 3) (N := some 22) (v := ?_) (a' := ?_) #[true, true, true, true, false, false, false, false, false, false, false, false] rfl rfl (by kernel_rfl) (fun _ _ _ h => h) (Or.inl ⟨by rfl, ?_⟩) hHeld ?_ ?_
  rotate_left
  · intro w' hs
    have s0 := (cell_heap hs ⟨gb2, 1, none⟩).trans cy2_1
    go_simp
    with_reducible rfl
  rotate_left
  · simp only [Act.put, sx_, sy_, sz_]
    rfl
  refine pure_ (i := 5) (N := some 24) (v := ?_) (a' := ?_) #[true, true, true, true, false, true, false, false, false, false, false, false] rfl rfl (by kernel_rfl) (fun _ _ _ h => h) (Or.inl ⟨by rfl, ?_⟩) ?_ ?_
  rotate_left
  · intro w'
    go_simp
    with_reducible rfl
  rotate_left
  · simp only [Act.put, sx_, sy_, sz_]
    rfl
  refine take_ (i := 6) (N := some 25) (v := ?_) (a' := ?_) #[true, true, true, true, false, true, true, false, false, false, false, false] rfl rfl (by kernel_rfl) (fun _ _ _ h => h) (Or.inl ⟨by rfl, ?_⟩) hHeld ?_ ?_
  rotate_left
  · intro w' hs
    have s0 := (cell_heap hs ⟨gb1, 1, none⟩).trans cy1_1
    go_simp
    with_reducible rfl
  rotate_left
  · simp only [Act.put, sx_, sy_, sz_]
    rfl
  refine pure_ (i := 7) (N := some 26) (v := ?_) (a' := ?_) #[true, true, true, true, false, true, true, true, false, false, false, false] rfl rfl (by kernel_rfl) (fun _ _ _ h => h) (Or.inl ⟨by rfl, ?_⟩) ?_ ?_
  rotate_left
  · intro w'
    go_simp
    with_reducible rfl
  rotate_left
  · simp only [Act.put, sx_, sy_, sz_]
    rfl
  refine take_ (i := 8) (N := some 27) (v := ?_) (a' := ?_) #[true, true, true, true, false, true, true, true, true, false, false, false] rfl rfl (by kernel_rfl) (fun _ _ _ h => h) (Or.inl ⟨by rfl, ?_⟩) hHeld ?_ ?_
  rotate_left
  · intro w' hs
    have s0 := (cell_heap hs ⟨gb2, 0, none⟩).trans cy2_0
    go_simp
    with_reducible rfl
  rotate_left
  · simp only [Act.put, sx_, sy_, sz_]
    rfl
  refine join_ (σ := Nat × Nat) 0 #[true, true, true, true, true, true, true, true, true, true, true, true] (fun s_ => [(23, .float .f64 s_.1), (28, .float .f64 s_.2), (7, .float .f64 s_.1), (8, .float .f64 s_.2)]) (fun s_ w' => FR .mul a d s_.1 ∧ FR .mul b c s_.2 ∧ w'.heap = wr2.heap ∧ Below w.heap.size w w') ?_ ?_
  rotate_left
  · intro hCont
    refine two_ (i := 4) (j := 9) (Ni := some 23) (Nj := some 28) #[true, true, true, true, true, true, true, true, true, false, false, false] #[true, true, true, true, false, true, true, true, true, true, false, false] rfl rfl rfl rfl (by kernel_rfl) (by decide) (by decide) (fun K hK => ?_) (fun K hK => ?_)
    · refine fl_step (k := .f64) (R := FR .mul a d) ?hw (N := 23) ?hd ?hr ?_
      (case hw => rfl)
      (case hd => rfl)
      (case hr => obtain ⟨r_, w_, hc_, hR_, hq_⟩ := fl_run (P := Try.prog) .mul 26 a d _ (by simp); exact ⟨r_, w_, by first | (go_simp; done) | (go_simp; rfl), hR_, hq_⟩)
      intro r1 wa h1 qa
      have ea := (Quiet.heap qa).trans hHeld
      have HA := below_step HD.out (Quiet.below qa)
      refine hK.out _ _ ea (fun _ => ?_)
      clear hK K
      refine norm_ (a' := ?_) ?_ ?_
      rotate_left
      · show Act.put _ (some 23) _ = _
        simp only [Act.put, sx_, sy_, sz_]
        rfl
      refine pure_ (i := 10) (N := some 7) (v := ?_) (a' := ?_) #[true, true, true, true, true, true, true, true, true, false, true, false] rfl rfl (by kernel_rfl) (fun _ _ _ h => h) (Or.inl ⟨by rfl, ?_⟩) ?_ ?_
      rotate_left
      · intro w'
        go_simp
        with_reducible rfl
      rotate_left
      · simp only [Act.put, sx_, sy_, sz_]
        rfl
      refine one_ (i := 9) (N := some 28) #[true, true, true, true, true, true, true, true, true, true, true, false] rfl rfl (by kernel_rfl) (by decide) (fun K hK => ?_)
      refine fl_step (k := .f64) (R := FR .mul b c) ?hw (N := 28) ?hd ?hr ?_
      (case hw => rfl)
      (case hd => rfl)
      (case hr => obtain ⟨r_, w_, hc_, hR_, hq_⟩ := fl_run (P := Try.prog) .mul 26 b c _ (by simp); exact ⟨r_, w_, by first | (go_simp; done) | (go_simp; rfl), hR_, hq_⟩)
      intro r2 wb h2 qb
      have eb := (Quiet.heap qb).trans ea
      have HE := below_step HA (Quiet.below qb)
      refine hK.out _ _ eb (fun _ => ?_)
      clear hK K
      refine norm_ (a' := ?_) ?_ ?_
      rotate_left
      · show Act.put _ (some 28) _ = _
        simp only [Act.put, sx_, sy_, sz_]
        rfl
      refine pure_ (i := 11) (N := some 8) (v := ?_) (a' := ?_) #[true, true, true, true, true, true, true, true, true, true, true, true] rfl rfl (by kernel_rfl) (fun _ _ _ h => h) (Or.inl ⟨by rfl, ?_⟩) ?_ ?_
      rotate_left
      · intro w'
        go_simp
        with_reducible rfl
      rotate_left
      · simp only [Act.put, sx_, sy_, sz_]
        rfl
      exact norm_ (by simp only [putAll, Act.put, sx_, sy_, sz_]) (hCont (r1, r2) _ ⟨h1, h2, eb, HE⟩)
    · refine fl_step (k := .f64) (R := FR .mul b c) ?hw (N := 28) ?hd ?hr ?_
      (case hw => rfl)
      (case hd => rfl)
      (case hr => obtain ⟨r_, w_, hc_, hR_, hq_⟩ := fl_run (P := Try.prog) .mul 26 b c _ (by simp); exact ⟨r_, w_, by first | (go_simp; done) | (go_simp; rfl), hR_, hq_⟩)
      intro r2 wa h2 qa
      have ea := (Quiet.heap qa).trans hHeld
      have HA := below_step HD.out (Quiet.below qa)
      refine hK.out _ _ ea (fun _ => ?_)
      clear hK K
      refine norm_ (a' := ?_) ?_ ?_
      rotate_left
      · show Act.put _ (some 28) _ = _
        simp only [Act.put, sx_, sy_, sz_]
        rfl
      refine one_ (i := 4) (N := some 23) #[true, true, true, true, true, true, true, true, true, true, false, false] rfl rfl (by kernel_rfl) (by decide) (fun K hK => ?_)
      refine fl_step (k := .f64) (R := FR .mul a d) ?hw (N := 23) ?hd ?hr ?_
      (case hw => rfl)
      (case hd => rfl)
      (case hr => obtain ⟨r_, w_, hc_, hR_, hq_⟩ := fl_run (P := Try.prog) .mul 26 a d _ (by simp); exact ⟨r_, w_, by first | (go_simp; done) | (go_simp; rfl), hR_, hq_⟩)
      intro r1 wb h1 qb
      have eb := (Quiet.heap qb).trans ea
      have HE := below_step HA (Quiet.below qb)
      refine hK.out _ _ eb (fun _ => ?_)
      clear hK K
      refine norm_ (a' := ?_) ?_ ?_
      rotate_left
      · show Act.put _ (some 23) _ = _
        simp only [Act.put, sx_, sy_, sz_]
        rfl
      refine pure_ (i := 10) (N := some 7) (v := ?_) (a' := ?_) #[true, true, true, true, true, true, true, true, true, true, true, false] rfl rfl (by kernel_rfl) (fun _ _ _ h => h) (Or.inl ⟨by rfl, ?_⟩) ?_ ?_
      rotate_left
      · intro w'
        go_simp
        with_reducible rfl
      rotate_left
      · simp only [Act.put, sx_, sy_, sz_]
        rfl
      refine pure_ (i := 11) (N := some 8) (v := ?_) (a' := ?_) #[true, true, true, true, true, true, true, true, true, true, true, true] rfl rfl (by kernel_rfl) (fun _ _ _ h => h) (Or.inl ⟨by rfl, ?_⟩) ?_ ?_
      rotate_left
      · intro w'
        go_simp
        with_reducible rfl
      rotate_left
      · simp only [Act.put, sx_, sy_, sz_]
        rfl
      exact norm_ (by simp only [putAll, Act.put, sx_, sy_, sz_]) (hCont (r1, r2) _ ⟨h1, h2, eb, HE⟩)
  rintro ⟨r3, r4⟩ wr4 ⟨hr3, hr4, hh, hb7⟩
  simp only at hr3 hr4
  refine norm_ (a' := ?_) ?_ ?_
  rotate_left
  · simp only [putAll, Act.put, sx_, sy_, sz_]
    rfl
  refine done_ (by kernel_rfl) ?_
  replace BK1 := Aside0.mk (show wr4.heap[gb1]? = some (.cells #[.float .f64 a, .float .f64 b] 28 (0, 0)) from by rw [hh]; exact BK1.out)
  replace BK2 := Aside0.mk (show wr4.heap[gb2]? = some (.cells #[.float .f64 c, .float .f64 d] 28 (0, 0)) from by rw [hh]; exact BK2.out)
  replace BK3 := Aside0.mk (show wr4.heap[gb3]? = some (.cells #[.float .f64 0, .float .f64 0] 28 (0, 0)) from by rw [hh]; exact BK3.out)
  replace HB := Aside0.mk hb7
  clear hb7 hh HD hHeld
  obtain ⟨v1, v2, v3, v4⟩ := cs2_ BK3.out
  go_wp2_with (first | ((with_reducible refine gate_dst (N := 31) rfl ?_); refine fl_event (k := .f64) (R := FR .sub r1 r2) ?hg (N := 31) ?hd ?hr ?_; (case hd => rfl); (case hg => rfl); (case hr => obtain ⟨r_, w_, hc_, hR_, hq_⟩ := fl_run (P := Try.prog) .sub 26 r1 r2 _ (by simp); exact ⟨r_, w_, by first | (go_simp; done) | (go_simp; rfl), hR_, hq_⟩); intro p w21 hp hb; replace BK1 := Aside0.mk (blk_below BK1.out hb); replace BK2 := Aside0.mk (blk_below BK2.out hb); replace BK3 := Aside0.mk (blk_below BK3.out hb); replace HB := Aside0.mk (below_step HB.out hb); obtain ⟨z22_1_0, z22_1_1, y22_1_0, y22_1_1⟩ := cs2_ BK1.out; obtain ⟨z22_2_0, z22_2_1, y22_2_0, y22_2_1⟩ := cs2_ BK2.out; obtain ⟨z22_3_0, z22_3_1, y22_3_0, y22_3_1⟩ := cs2_ BK3.out; clear hb) | ((with_reducible refine gate_dst (N := 34) rfl ?_); refine fl_event (k := .f64) (R := FR .add r3 r4) ?hg (N := 34) ?hd ?hr ?_; (case hd => rfl); (case hg => rfl); (case hr => obtain ⟨r_, w_, hc_, hR_, hq_⟩ := fl_run (P := Try.prog) .add 26 r3 r4 _ (by simp); exact ⟨r_, w_, by first | (go_simp; done) | (go_simp; rfl), hR_, hq_⟩); intro q w23 hq hb; replace BK1 := Aside0.mk (blk_below BK1.out hb); replace BK2 := Aside0.mk (blk_below BK2.out hb); replace BK3 := Aside0.mk (blk_below BK3.out hb); replace HB := Aside0.mk (below_step HB.out hb); obtain ⟨z24_1_0, z24_1_1, y24_1_0, y24_1_1⟩ := cs2_ BK1.out; obtain ⟨z24_2_0, z24_2_1, y24_2_0, y24_2_1⟩ := cs2_ BK2.out; obtain ⟨z24_3_0, z24_3_1, y24_3_0, y24_3_1⟩ := cs2_ BK3.out; clear hb))
  refine bodyPost_ret (results_cell_row rfl _ _ gb3 28 #[.float .f64 p, .float .f64 q] (0, 0) _ rfl (by (with_reducible repeat (first | refine blk_drewN ?_ _ | refine blk_drew ?_ | refine blk_alloc ?_ _)); refine blk_put (cs := #[.float .f64 p, .float .f64 0]) ?_ 1 _ rfl; (with_reducible repeat (first | refine blk_drewN ?_ _ | refine blk_drew ?_ | refine blk_alloc ?_ _)); refine blk_put (cs := #[.float .f64 0, .float .f64 0]) ?_ 0 _ rfl; (with_reducible repeat (first | refine blk_drewN ?_ _ | refine blk_drew ?_ | refine blk_alloc ?_ _)); exact BK3.out) Try.underlying28 rfl (by kernel_rfl)) rfl ?_
  exact ⟨p, q, ⟨r1, r2, r3, r4, hr1, hr2, hr3, hr4, hp, hq⟩, rfl, (by repeat (first | (with_reducible first | exact HB.out | apply below_alloc | apply pw_below_drewN | apply below_drew1 | refine below_set ?_ GE1.out | refine below_set ?_ GE2.out | refine below_set ?_ GE3.out) | exact HB.out))⟩


end Go.Proofs.Ythjlapmjpjpgeaa.M
namespace Go.Proofs.Ythjlapmjpjpgeaa.M
set_option linter.unusedSimpArgs false
set_option linter.unusedVariables false
open Go.RowKit Go.Proofs.YthjlapmjpjpgeaaW.PrintWords Go.Proofs.YthjlapmjpjpgeaaW.PrintLast Go.Proofs.YthjlapmjpjpgeaaW.PrintMore Go.Proofs.Ythjlapmjpjpgeaa.Sq
attribute [local go_sem] run_store_float

set_option maxHeartbeats 8000000 in
set_option maxRecDepth 100000 in
theorem laws_FnExactPhTimes.callsN (a0_0 a0_1 a1_0 a1_1 : Nat) (w : World) :
    Calls Try.prog 6 #[.agg #[.float .f64 a0_0, .float .f64 a0_1], .agg #[.float .f64 a1_0, .float .f64 a1_1]] w fun e w' => e = .returned (.bool true) ∧ Below w.heap.size w w' := by
  have hu34 := Try.underlying34
  have hu28 := Try.underlying28
  have HB := Aside0.mk (Below.refl w.heap.size w)
  obtain ⟨t167, t168, A30, et167, et168⟩ : ∃ x_ y_, laws_toPhasor.f a0_0 a0_1 = some (x_, y_) ∧ x_ = a0_0 ∧ y_ = a0_1 := ⟨_, _, rfl, rfl, rfl⟩
  have A3 := Aside0.mk A30
  clear A30
  obtain ⟨t169, t170, A40, et169, et170⟩ : ∃ x_ y_, laws_toPhasor.f a1_0 a1_1 = some (x_, y_) ∧ x_ = a1_0 ∧ y_ = a1_1 := ⟨_, _, rfl, rfl, rfl⟩
  have A4 := Aside0.mk A40
  clear A40
  obtain ⟨t174, t175, A60, et174, et175⟩ : ∃ x_ y_, laws_toPhasor.f a0_0 a0_1 = some (x_, y_) ∧ x_ = a0_0 ∧ y_ = a0_1 := ⟨_, _, rfl, rfl, rfl⟩
  have A6 := Aside0.mk A60
  clear A60
  obtain ⟨t176, t177, A70, et176, et177⟩ : ∃ x_ y_, laws_toPhasor.f a1_0 a1_1 = some (x_, y_) ∧ x_ = a1_0 ∧ y_ = a1_1 := ⟨_, _, rfl, rfl, rfl⟩
  have A7 := Aside0.mk A70
  clear A70
  go_enter Try.func6, Try.ntmps6
  try go_wp2_with (first | ((with_reducible refine gate_dst (N := 2) rfl ?_); refine box_event ?hg (N := 2) ?hd (cs := #[.float .f64 a0_0, .float .f64 a0_1]) (t := 34) ?hr ?_; (case hd => rfl); (case hg => rfl); (case hr => first | (go_simp; done) | (go_simp; rfl)); intro gb165 hg w11 hbox hb; have n0_ := Aside0.mk (below_step (by repeat (first | (with_reducible first | exact HB.out | apply below_alloc | apply pw_below_drewN | apply below_drew1) | exact HB.out)) hb); have n1_ := Aside0.mk (hbox); have n2_ := Aside0.mk ((by rw [hg]; exact (below_size (by repeat (first | (with_reducible first | exact HB.out | apply below_alloc | apply pw_below_drewN | apply below_drew1) | exact HB.out))) : w.heap.size ≤ gb165)); have n3_ := Aside0.mk ((by rw [hg]; exact (below_size (by repeat (first | (with_reducible first | exact HB.out | apply below_alloc | apply pw_below_drewN | apply below_drew1) | exact HB.out))) : w.heap.size ≤ gb165)); clear HB; have HB := n0_; have BK165 := n1_; have GW165 := n2_; have GE165 := n3_; clear n0_ n1_ n2_ n3_; clear hb hbox hg) | ((with_reducible refine gate_dst (N := 3) rfl ?_); refine box_event ?hg (N := 3) ?hd (cs := #[.float .f64 a1_0, .float .f64 a1_1]) (t := 34) ?hr ?_; (case hd => rfl); (case hg => rfl); (case hr => first | (go_simp; done) | (go_simp; rfl)); intro gb166 hg w12 hbox hb; have n0_ := Aside0.mk (blk_below (g := gb165) (o := .cells #[.float .f64 a0_0, .float .f64 a0_1] 34 (0, 0)) (by (with_reducible repeat (first | refine blk_drewN ?_ _ | refine blk_drew ?_ | refine blk_alloc ?_ _)); exact BK165.out) hb); have n1_ := Aside0.mk (below_step (by repeat (first | (with_reducible first | exact HB.out | apply below_alloc | apply pw_below_drewN | apply below_drew1 | refine below_set ?_ GE165.out) | exact HB.out)) hb); have n2_ := Aside0.mk (hbox); have n3_ := Aside0.mk ((by rw [hg]; exact (below_size (by repeat (first | (with_reducible first | exact HB.out | apply below_alloc | apply pw_below_drewN | apply below_drew1 | refine below_set ?_ GE165.out) | exact HB.out))) : w.heap.size ≤ gb166)); have n4_ := Aside0.mk ((by rw [hg]; exact (below_size (by repeat (first | (with_reducible first | exact HB.out | apply below_alloc | apply pw_below_drewN | apply below_drew1 | refine below_set ?_ GE165.out) | exact HB.out))) : w.heap.size ≤ gb166)); have n5_ := Aside0.mk ((by rw [hg]; exact Nat.ne_of_lt (blk_lt (g := gb165) (o := .cells #[.float .f64 a0_0, .float .f64 a0_1] 34 (0, 0)) (by (with_reducible repeat (first | refine blk_drewN ?_ _ | refine blk_drew ?_ | refine blk_alloc ?_ _)); exact BK165.out)) : gb165 ≠ gb166)); have n6_ := Aside0.mk ((by rw [hg]; exact Nat.ne_of_gt (blk_lt (g := gb165) (o := .cells #[.float .f64 a0_0, .float .f64 a0_1] 34 (0, 0)) (by (with_reducible repeat (first | refine blk_drewN ?_ _ | refine blk_drew ?_ | refine blk_alloc ?_ _)); exact BK165.out)) : gb166 ≠ gb165)); clear BK165; clear HB; have BK165 := n0_; have HB := n1_; have BK166 := n2_; have GW166 := n3_; have GE166 := n4_; have NB165_166 := n5_; have NB166_165 := n6_; clear n0_ n1_ n2_ n3_ n4_ n5_ n6_; clear hb hbox hg))
  have n0_ := Aside0.mk (blk_drew BK165.out)
  have n1_ := Aside0.mk (blk_drew BK166.out)
  have n2_ := Aside0.mk (below_drew1 HB.out)
  clear BK165
  clear BK166
  clear HB
  have BK165 := n0_
  have BK166 := n1_
  have HB := n2_
  clear n0_ n1_ n2_
  refine start_ (n := 7) (S := fun w' => w'.cell? ⟨gb165, 0, none⟩ = some (.float .f64 a0_0) ∧ w'.cell? ⟨gb165, 1, none⟩ = some (.float .f64 a0_1) ∧ w'.cell? ⟨gb166, 0, none⟩ = some (.float .f64 a1_0) ∧ w'.cell? ⟨gb166, 1, none⟩ = some (.float .f64 a1_1)) (ds := []) #[false, false, false, false, false, false, false] (by kernel_rfl) rfl rfl ⟨(blk_cell BK165.out 0).trans rfl, (blk_cell BK165.out 1).trans rfl, (blk_cell BK166.out 0).trans rfl, (blk_cell BK166.out 1).trans rfl⟩ (fun hHeld => ?_)
  generalize w12.drew = w13 at BK165 BK166 HB hHeld ⊢
  refine take_ (i := 0) (N := some 7) (v := ?_) (a' := ?_) #[true, false, false, false, false, false, false] rfl rfl (by kernel_rfl) (fun _ _ _ h => h) (Or.inl ⟨by rfl, ?_⟩) hHeld ?_ ?_
  rotate_left
  · rintro w' ⟨s0, s1, s2, s3⟩
    go_simp
    with_reducible rfl
  rotate_left
  · simp only [Act.put, List.setIfInBounds_toArray, List.set_cons_zero, List.set_cons_succ, i64_w, i32_w]
    rfl
  refine take_ (i := 2) (N := some 9) (v := ?_) (a' := ?_) #[true, false, true, false, false, false, false] rfl rfl (by kernel_rfl) (fun _ _ _ h => h) (Or.inl ⟨by rfl, ?_⟩) hHeld ?_ ?_
  rotate_left
  · rintro w' ⟨s0, s1, s2, s3⟩
    go_simp
    with_reducible rfl
  rotate_left
  · simp only [Act.put, List.setIfInBounds_toArray, List.set_cons_zero, List.set_cons_succ, i64_w, i32_w]
    rfl
  refine join_ (σ := Nat × Nat × Nat) 1 #[true, true, true, true, true, true, false] (fun s_ => [(8, .agg #[.float .f64 t167, .float .f64 t168]), (10, .agg #[.float .f64 t169, .float .f64 t170]), (11, .agg #[.float .f64 s_.2.1, .float .f64 s_.2.2]), (5, .pointer (some ⟨s_.1, 0, none⟩))]) (fun s_ w' => (PT t167 t168 t169 t170 s_.2.1 s_.2.2) ∧ (w'.cell? ⟨gb165, 0, none⟩ = some (.float .f64 a0_0) ∧ w'.cell? ⟨gb165, 1, none⟩ = some (.float .f64 a0_1) ∧ w'.cell? ⟨gb166, 0, none⟩ = some (.float .f64 a1_0) ∧ w'.cell? ⟨gb166, 1, none⟩ = some (.float .f64 a1_1)) ∧ (w'.heap[gb165]? = some (.cells #[.float .f64 a0_0, .float .f64 a0_1] 34 (0, 0))) ∧ (w'.heap[gb166]? = some (.cells #[.float .f64 a1_0, .float .f64 a1_1] 34 (0, 0))) ∧ (w'.heap[s_.1]? = some (.cells #[.float .f64 0, .float .f64 0] 28 (0, 0))) ∧ (w.heap.size ≤ s_.1) ∧ (w.heap.size ≤ s_.1) ∧ (gb165 ≠ s_.1) ∧ (s_.1 ≠ gb165) ∧ (gb166 ≠ s_.1) ∧ (s_.1 ≠ gb166) ∧ (Below w.heap.size w w')) ?_ ?_
  rotate_left
  · intro hCont
    refine two_ (i := 1) (j := 5) (Ni := some 8) (Nj := some 5) #[true, true, true, false, false, false, false] #[true, false, true, false, false, true, false] rfl rfl rfl rfl (by kernel_rfl) (by decide) (by decide) (fun K hK => ?_) (fun K hK => ?_)
    · skip
      refine goes_ Try.func19 (by kernel_rfl) rfl #[.agg #[.float .f64 a0_0, .float .f64 a0_1]] (by rfl) rfl rfl (by (try simp only [List.map_toArray, List.map_cons, List.map_nil]); first | done | rfl | (simp only [List.length_drop, List.length_take]; rfl)) ?_
      with_reducible refine (laws_toPhasor.calls a0_0 a0_1 t167 t168 _ A3.out).mono ?_
      rintro e w14 ⟨rfl, hb⟩
      refine ⟨_, rfl, ?_⟩
      have n0_ := Aside0.mk (blk_below (g := gb165) (o := .cells #[.float .f64 a0_0, .float .f64 a0_1] 34 (0, 0)) (by (with_reducible repeat (first | refine blk_drewN ?_ _ | refine blk_drew ?_ | refine blk_alloc ?_ _)); exact BK165.out) hb)
      have n1_ := Aside0.mk (blk_below (g := gb166) (o := .cells #[.float .f64 a1_0, .float .f64 a1_1] 34 (0, 0)) (by (with_reducible repeat (first | refine blk_drewN ?_ _ | refine blk_drew ?_ | refine blk_alloc ?_ _)); exact BK166.out) hb)
      have n2_ := Aside0.mk (below_step (by repeat (first | (with_reducible first | exact HB.out | apply below_alloc | apply pw_below_drewN | apply below_drew1 | refine below_set ?_ GE165.out | refine below_set ?_ GE166.out) | exact HB.out)) hb)
      clear BK165
      clear BK166
      clear HB
      have BK165 := n0_
      have BK166 := n1_
      have HB := n2_
      clear n0_ n1_ n2_
      (try clear hb)
      (try clear hb2)
      (try clear hk)
      (try clear hi)
      refine hK.out _ _ ⟨(blk_cell BK165.out 0).trans rfl, (blk_cell BK165.out 1).trans rfl, (blk_cell BK166.out 0).trans rfl, (blk_cell BK166.out 1).trans rfl⟩ (fun hHeld => ?_)
      clear hK K
      refine norm_ (a' := ?_) ?_ ?_
      rotate_left
      · show Act.put _ (some 8) _ = _
        simp only [Act.put, List.setIfInBounds_toArray, List.set_cons_zero, List.set_cons_succ, i64_w, i32_w]
        rfl
      refine two_ (i := 3) (j := 5) (Ni := some 10) (Nj := some 5) #[true, true, true, true, false, false, false] #[true, true, true, false, false, true, false] rfl rfl rfl rfl (by kernel_rfl) (by decide) (by decide) (fun K hK => ?_) (fun K hK => ?_)
      · skip
        refine goes_ Try.func19 (by kernel_rfl) rfl #[.agg #[.float .f64 a1_0, .float .f64 a1_1]] (by rfl) rfl rfl (by (try simp only [List.map_toArray, List.map_cons, List.map_nil]); first | done | rfl | (simp only [List.length_drop, List.length_take]; rfl)) ?_
        with_reducible refine (laws_toPhasor.calls a1_0 a1_1 t169 t170 _ A4.out).mono ?_
        rintro e w15 ⟨rfl, hb⟩
        refine ⟨_, rfl, ?_⟩
        have n0_ := Aside0.mk (blk_below (g := gb165) (o := .cells #[.float .f64 a0_0, .float .f64 a0_1] 34 (0, 0)) (by (with_reducible repeat (first | refine blk_drewN ?_ _ | refine blk_drew ?_ | refine blk_alloc ?_ _)); exact BK165.out) hb)
        have n1_ := Aside0.mk (blk_below (g := gb166) (o := .cells #[.float .f64 a1_0, .float .f64 a1_1] 34 (0, 0)) (by (with_reducible repeat (first | refine blk_drewN ?_ _ | refine blk_drew ?_ | refine blk_alloc ?_ _)); exact BK166.out) hb)
        have n2_ := Aside0.mk (below_step (by repeat (first | (with_reducible first | exact HB.out | apply below_alloc | apply pw_below_drewN | apply below_drew1 | refine below_set ?_ GE165.out | refine below_set ?_ GE166.out) | exact HB.out)) hb)
        clear BK165
        clear BK166
        clear HB
        have BK165 := n0_
        have BK166 := n1_
        have HB := n2_
        clear n0_ n1_ n2_
        (try clear hb)
        (try clear hb2)
        (try clear hk)
        (try clear hi)
        refine hK.out _ _ ⟨(blk_cell BK165.out 0).trans rfl, (blk_cell BK165.out 1).trans rfl, (blk_cell BK166.out 0).trans rfl, (blk_cell BK166.out 1).trans rfl⟩ (fun hHeld => ?_)
        clear hK K
        refine norm_ (a' := ?_) ?_ ?_
        rotate_left
        · show Act.put _ (some 10) _ = _
          simp only [Act.put, List.setIfInBounds_toArray, List.set_cons_zero, List.set_cons_succ, i64_w, i32_w]
          rfl
        refine two_ (i := 4) (j := 5) (Ni := some 11) (Nj := some 5) #[true, true, true, true, true, false, false] #[true, true, true, true, false, true, false] rfl rfl rfl rfl (by kernel_rfl) (by decide) (by decide) (fun K hK => ?_) (fun K hK => ?_)
        · skip
          refine goes_ Try.func22 (by kernel_rfl) rfl #[.agg #[.float .f64 t167, .float .f64 t168], .agg #[.float .f64 t169, .float .f64 t170]] (by rfl) rfl rfl (by (try simp only [List.map_toArray, List.map_cons, List.map_nil]); first | done | rfl | (simp only [List.length_drop, List.length_take]; rfl)) ?_
          with_reducible refine (spec_PhTimes.callsN t167 t168 t169 t170 _).mono ?_
          rintro e w16 ⟨t171, t172, hP5, rfl, hb⟩
          refine ⟨_, rfl, ?_⟩
          have n0_ := Aside0.mk (blk_below (g := gb165) (o := .cells #[.float .f64 a0_0, .float .f64 a0_1] 34 (0, 0)) (by (with_reducible repeat (first | refine blk_drewN ?_ _ | refine blk_drew ?_ | refine blk_alloc ?_ _)); exact BK165.out) hb)
          have n1_ := Aside0.mk (blk_below (g := gb166) (o := .cells #[.float .f64 a1_0, .float .f64 a1_1] 34 (0, 0)) (by (with_reducible repeat (first | refine blk_drewN ?_ _ | refine blk_drew ?_ | refine blk_alloc ?_ _)); exact BK166.out) hb)
          have n2_ := Aside0.mk (below_step (by repeat (first | (with_reducible first | exact HB.out | apply below_alloc | apply pw_below_drewN | apply below_drew1 | refine below_set ?_ GE165.out | refine below_set ?_ GE166.out) | exact HB.out)) hb)
          clear BK165
          clear BK166
          clear HB
          have BK165 := n0_
          have BK166 := n1_
          have HB := n2_
          clear n0_ n1_ n2_
          (try clear hb)
          (try clear hb2)
          (try clear hk)
          (try clear hi)
          refine hK.out _ _ ⟨(blk_cell BK165.out 0).trans rfl, (blk_cell BK165.out 1).trans rfl, (blk_cell BK166.out 0).trans rfl, (blk_cell BK166.out 1).trans rfl⟩ (fun hHeld => ?_)
          clear hK K
          refine norm_ (a' := ?_) ?_ ?_
          rotate_left
          · show Act.put _ (some 11) _ = _
            simp only [Act.put, List.setIfInBounds_toArray, List.set_cons_zero, List.set_cons_succ, i64_w, i32_w]
            rfl
          refine one_ (i := 5) (N := some 5) #[true, true, true, true, true, true, false] rfl rfl (by kernel_rfl) (by decide) (fun K hK => ?_)
          refine box_step ?hg (N := 5) ?hd (cs := #[.float .f64 0, .float .f64 0]) (t := 28) ?hr ?_; (case hd => rfl); (case hg => rfl); (case hr => first | (go_simp; done) | (go_simp; rfl))
          intro gb173 hg w17 hbox hb
          have n0_ := Aside0.mk (blk_below (g := gb165) (o := .cells #[.float .f64 a0_0, .float .f64 a0_1] 34 (0, 0)) (by (with_reducible repeat (first | refine blk_drewN ?_ _ | refine blk_drew ?_ | refine blk_alloc ?_ _)); exact BK165.out) hb)
          have n1_ := Aside0.mk (blk_below (g := gb166) (o := .cells #[.float .f64 a1_0, .float .f64 a1_1] 34 (0, 0)) (by (with_reducible repeat (first | refine blk_drewN ?_ _ | refine blk_drew ?_ | refine blk_alloc ?_ _)); exact BK166.out) hb)
          have n2_ := Aside0.mk (below_step (by repeat (first | (with_reducible first | exact HB.out | apply below_alloc | apply pw_below_drewN | apply below_drew1 | refine below_set ?_ GE165.out | refine below_set ?_ GE166.out) | exact HB.out)) hb)
          have n3_ := Aside0.mk (hbox)
          have n4_ := Aside0.mk ((by rw [hg]; exact (below_size (by repeat (first | (with_reducible first | exact HB.out | apply below_alloc | apply pw_below_drewN | apply below_drew1 | refine below_set ?_ GE165.out | refine below_set ?_ GE166.out) | exact HB.out))) : w.heap.size ≤ gb173))
          have n5_ := Aside0.mk ((by rw [hg]; exact (below_size (by repeat (first | (with_reducible first | exact HB.out | apply below_alloc | apply pw_below_drewN | apply below_drew1 | refine below_set ?_ GE165.out | refine below_set ?_ GE166.out) | exact HB.out))) : w.heap.size ≤ gb173))
          have n6_ := Aside0.mk ((by rw [hg]; exact Nat.ne_of_lt (blk_lt (g := gb165) (o := .cells #[.float .f64 a0_0, .float .f64 a0_1] 34 (0, 0)) (by (with_reducible repeat (first | refine blk_drewN ?_ _ | refine blk_drew ?_ | refine blk_alloc ?_ _)); exact BK165.out)) : gb165 ≠ gb173))
          have n7_ := Aside0.mk ((by rw [hg]; exact Nat.ne_of_gt (blk_lt (g := gb165) (o := .cells #[.float .f64 a0_0, .float .f64 a0_1] 34 (0, 0)) (by (with_reducible repeat (first | refine blk_drewN ?_ _ | refine blk_drew ?_ | refine blk_alloc ?_ _)); exact BK165.out)) : gb173 ≠ gb165))
          have n8_ := Aside0.mk ((by rw [hg]; exact Nat.ne_of_lt (blk_lt (g := gb166) (o := .cells #[.float .f64 a1_0, .float .f64 a1_1] 34 (0, 0)) (by (with_reducible repeat (first | refine blk_drewN ?_ _ | refine blk_drew ?_ | refine blk_alloc ?_ _)); exact BK166.out)) : gb166 ≠ gb173))
          have n9_ := Aside0.mk ((by rw [hg]; exact Nat.ne_of_gt (blk_lt (g := gb166) (o := .cells #[.float .f64 a1_0, .float .f64 a1_1] 34 (0, 0)) (by (with_reducible repeat (first | refine blk_drewN ?_ _ | refine blk_drew ?_ | refine blk_alloc ?_ _)); exact BK166.out)) : gb173 ≠ gb166))
          clear BK165
          clear BK166
          clear HB
          have BK165 := n0_
          have BK166 := n1_
          have HB := n2_
          have BK173 := n3_
          have GW173 := n4_
          have GE173 := n5_
          have NB165_173 := n6_
          have NB173_165 := n7_
          have NB166_173 := n8_
          have NB173_166 := n9_
          clear n0_ n1_ n2_ n3_ n4_ n5_ n6_ n7_ n8_ n9_
          clear hb hbox hg
          refine hK.out _ _ ⟨(blk_cell BK165.out 0).trans rfl, (blk_cell BK165.out 1).trans rfl, (blk_cell BK166.out 0).trans rfl, (blk_cell BK166.out 1).trans rfl⟩ (fun hHeld => ?_)
          clear hK K
          refine norm_ (a' := ?_) ?_ ?_
          rotate_left
          · show Act.put _ (some 5) _ = _
            simp only [Act.put, List.setIfInBounds_toArray, List.set_cons_zero, List.set_cons_succ, i64_w, i32_w]
            rfl
          exact norm_ (by simp only [putAll, Act.put, List.setIfInBounds_toArray, List.set_cons_zero, List.set_cons_succ]) (hCont (gb173, t171, t172) _ ⟨hP5, hHeld, (by (with_reducible repeat (first | refine blk_drewN ?_ _ | refine blk_drew ?_ | refine blk_alloc ?_ _)); exact BK165.out), (by (with_reducible repeat (first | refine blk_drewN ?_ _ | refine blk_drew ?_ | refine blk_alloc ?_ _)); exact BK166.out), (by (with_reducible repeat (first | refine blk_drewN ?_ _ | refine blk_drew ?_ | refine blk_alloc ?_ _)); exact BK173.out), GW173.out, GE173.out, NB165_173.out, NB173_165.out, NB166_173.out, NB173_166.out, (by repeat (first | (with_reducible first | exact HB.out | apply below_alloc | apply pw_below_drewN | apply below_drew1 | refine below_set ?_ GE165.out | refine below_set ?_ GE166.out | refine below_set ?_ GE173.out) | exact HB.out))⟩)
        · skip
          refine box_step ?hg (N := 5) ?hd (cs := #[.float .f64 0, .float .f64 0]) (t := 28) ?hr ?_; (case hd => rfl); (case hg => rfl); (case hr => first | (go_simp; done) | (go_simp; rfl))
          intro gb173 hg w16 hbox hb
          have n0_ := Aside0.mk (blk_below (g := gb165) (o := .cells #[.float .f64 a0_0, .float .f64 a0_1] 34 (0, 0)) (by (with_reducible repeat (first | refine blk_drewN ?_ _ | refine blk_drew ?_ | refine blk_alloc ?_ _)); exact BK165.out) hb)
          have n1_ := Aside0.mk (blk_below (g := gb166) (o := .cells #[.float .f64 a1_0, .float .f64 a1_1] 34 (0, 0)) (by (with_reducible repeat (first | refine blk_drewN ?_ _ | refine blk_drew ?_ | refine blk_alloc ?_ _)); exact BK166.out) hb)
          have n2_ := Aside0.mk (below_step (by repeat (first | (with_reducible first | exact HB.out | apply below_alloc | apply pw_below_drewN | apply below_drew1 | refine below_set ?_ GE165.out | refine below_set ?_ GE166.out) | exact HB.out)) hb)
          have n3_ := Aside0.mk (hbox)
          have n4_ := Aside0.mk ((by rw [hg]; exact (below_size (by repeat (first | (with_reducible first | exact HB.out | apply below_alloc | apply pw_below_drewN | apply below_drew1 | refine below_set ?_ GE165.out | refine below_set ?_ GE166.out) | exact HB.out))) : w.heap.size ≤ gb173))
          have n5_ := Aside0.mk ((by rw [hg]; exact (below_size (by repeat (first | (with_reducible first | exact HB.out | apply below_alloc | apply pw_below_drewN | apply below_drew1 | refine below_set ?_ GE165.out | refine below_set ?_ GE166.out) | exact HB.out))) : w.heap.size ≤ gb173))
          have n6_ := Aside0.mk ((by rw [hg]; exact Nat.ne_of_lt (blk_lt (g := gb165) (o := .cells #[.float .f64 a0_0, .float .f64 a0_1] 34 (0, 0)) (by (with_reducible repeat (first | refine blk_drewN ?_ _ | refine blk_drew ?_ | refine blk_alloc ?_ _)); exact BK165.out)) : gb165 ≠ gb173))
          have n7_ := Aside0.mk ((by rw [hg]; exact Nat.ne_of_gt (blk_lt (g := gb165) (o := .cells #[.float .f64 a0_0, .float .f64 a0_1] 34 (0, 0)) (by (with_reducible repeat (first | refine blk_drewN ?_ _ | refine blk_drew ?_ | refine blk_alloc ?_ _)); exact BK165.out)) : gb173 ≠ gb165))
          have n8_ := Aside0.mk ((by rw [hg]; exact Nat.ne_of_lt (blk_lt (g := gb166) (o := .cells #[.float .f64 a1_0, .float .f64 a1_1] 34 (0, 0)) (by (with_reducible repeat (first | refine blk_drewN ?_ _ | refine blk_drew ?_ | refine blk_alloc ?_ _)); exact BK166.out)) : gb166 ≠ gb173))
          have n9_ := Aside0.mk ((by rw [hg]; exact Nat.ne_of_gt (blk_lt (g := gb166) (o := .cells #[.float .f64 a1_0, .float .f64 a1_1] 34 (0, 0)) (by (with_reducible repeat (first | refine blk_drewN ?_ _ | refine blk_drew ?_ | refine blk_alloc ?_ _)); exact BK166.out)) : gb173 ≠ gb166))
          clear BK165
          clear BK166
          clear HB
          have BK165 := n0_
          have BK166 := n1_
          have HB := n2_
          have BK173 := n3_
          have GW173 := n4_
          have GE173 := n5_
          have NB165_173 := n6_
          have NB173_165 := n7_
          have NB166_173 := n8_
          have NB173_166 := n9_
          clear n0_ n1_ n2_ n3_ n4_ n5_ n6_ n7_ n8_ n9_
          clear hb hbox hg
          refine hK.out _ _ ⟨(blk_cell BK165.out 0).trans rfl, (blk_cell BK165.out 1).trans rfl, (blk_cell BK166.out 0).trans rfl, (blk_cell BK166.out 1).trans rfl⟩ (fun hHeld => ?_)
          clear hK K
          refine norm_ (a' := ?_) ?_ ?_
          rotate_left
          · show Act.put _ (some 5) _ = _
            simp only [Act.put, List.setIfInBounds_toArray, List.set_cons_zero, List.set_cons_succ, i64_w, i32_w]
            rfl
          refine one_ (i := 4) (N := some 11) #[true, true, true, true, true, true, false] rfl rfl (by kernel_rfl) (by decide) (fun K hK => ?_)
          refine goes_ Try.func22 (by kernel_rfl) rfl #[.agg #[.float .f64 t167, .float .f64 t168], .agg #[.float .f64 t169, .float .f64 t170]] (by rfl) rfl rfl (by (try simp only [List.map_toArray, List.map_cons, List.map_nil]); first | done | rfl | (simp only [List.length_drop, List.length_take]; rfl)) ?_
          with_reducible refine (spec_PhTimes.callsN t167 t168 t169 t170 _).mono ?_
          rintro e w17 ⟨t171, t172, hP5, rfl, hb⟩
          refine ⟨_, rfl, ?_⟩
          have n0_ := Aside0.mk (blk_below (g := gb165) (o := .cells #[.float .f64 a0_0, .float .f64 a0_1] 34 (0, 0)) (by (with_reducible repeat (first | refine blk_drewN ?_ _ | refine blk_drew ?_ | refine blk_alloc ?_ _)); exact BK165.out) hb)
          have n1_ := Aside0.mk (blk_below (g := gb166) (o := .cells #[.float .f64 a1_0, .float .f64 a1_1] 34 (0, 0)) (by (with_reducible repeat (first | refine blk_drewN ?_ _ | refine blk_drew ?_ | refine blk_alloc ?_ _)); exact BK166.out) hb)
          have n2_ := Aside0.mk (blk_below (g := gb173) (o := .cells #[.float .f64 0, .float .f64 0] 28 (0, 0)) (by (with_reducible repeat (first | refine blk_drewN ?_ _ | refine blk_drew ?_ | refine blk_alloc ?_ _)); exact BK173.out) hb)
          have n3_ := Aside0.mk (below_step (by repeat (first | (with_reducible first | exact HB.out | apply below_alloc | apply pw_below_drewN | apply below_drew1 | refine below_set ?_ GE165.out | refine below_set ?_ GE166.out | refine below_set ?_ GE173.out) | exact HB.out)) hb)
          clear BK165
          clear BK166
          clear BK173
          clear HB
          have BK165 := n0_
          have BK166 := n1_
          have BK173 := n2_
          have HB := n3_
          clear n0_ n1_ n2_ n3_
          (try clear hb)
          (try clear hb2)
          (try clear hk)
          (try clear hi)
          refine hK.out _ _ ⟨(blk_cell BK165.out 0).trans rfl, (blk_cell BK165.out 1).trans rfl, (blk_cell BK166.out 0).trans rfl, (blk_cell BK166.out 1).trans rfl⟩ (fun hHeld => ?_)
          clear hK K
          refine norm_ (a' := ?_) ?_ ?_
          rotate_left
          · show Act.put _ (some 11) _ = _
            simp only [Act.put, List.setIfInBounds_toArray, List.set_cons_zero, List.set_cons_succ, i64_w, i32_w]
            rfl
          exact norm_ (by simp only [putAll, Act.put, List.setIfInBounds_toArray, List.set_cons_zero, List.set_cons_succ]) (hCont (gb173, t171, t172) _ ⟨hP5, hHeld, (by (with_reducible repeat (first | refine blk_drewN ?_ _ | refine blk_drew ?_ | refine blk_alloc ?_ _)); exact BK165.out), (by (with_reducible repeat (first | refine blk_drewN ?_ _ | refine blk_drew ?_ | refine blk_alloc ?_ _)); exact BK166.out), (by (with_reducible repeat (first | refine blk_drewN ?_ _ | refine blk_drew ?_ | refine blk_alloc ?_ _)); exact BK173.out), GW173.out, GE173.out, NB165_173.out, NB173_165.out, NB166_173.out, NB173_166.out, (by repeat (first | (with_reducible first | exact HB.out | apply below_alloc | apply pw_below_drewN | apply below_drew1 | refine below_set ?_ GE165.out | refine below_set ?_ GE166.out | refine below_set ?_ GE173.out) | exact HB.out))⟩)
      · skip
        refine box_step ?hg (N := 5) ?hd (cs := #[.float .f64 0, .float .f64 0]) (t := 28) ?hr ?_; (case hd => rfl); (case hg => rfl); (case hr => first | (go_simp; done) | (go_simp; rfl))
        intro gb173 hg w15 hbox hb
        have n0_ := Aside0.mk (blk_below (g := gb165) (o := .cells #[.float .f64 a0_0, .float .f64 a0_1] 34 (0, 0)) (by (with_reducible repeat (first | refine blk_drewN ?_ _ | refine blk_drew ?_ | refine blk_alloc ?_ _)); exact BK165.out) hb)
        have n1_ := Aside0.mk (blk_below (g := gb166) (o := .cells #[.float .f64 a1_0, .float .f64 a1_1] 34 (0, 0)) (by (with_reducible repeat (first | refine blk_drewN ?_ _ | refine blk_drew ?_ | refine blk_alloc ?_ _)); exact BK166.out) hb)
        have n2_ := Aside0.mk (below_step (by repeat (first | (with_reducible first | exact HB.out | apply below_alloc | apply pw_below_drewN | apply below_drew1 | refine below_set ?_ GE165.out | refine below_set ?_ GE166.out) | exact HB.out)) hb)
        have n3_ := Aside0.mk (hbox)
        have n4_ := Aside0.mk ((by rw [hg]; exact (below_size (by repeat (first | (with_reducible first | exact HB.out | apply below_alloc | apply pw_below_drewN | apply below_drew1 | refine below_set ?_ GE165.out | refine below_set ?_ GE166.out) | exact HB.out))) : w.heap.size ≤ gb173))
        have n5_ := Aside0.mk ((by rw [hg]; exact (below_size (by repeat (first | (with_reducible first | exact HB.out | apply below_alloc | apply pw_below_drewN | apply below_drew1 | refine below_set ?_ GE165.out | refine below_set ?_ GE166.out) | exact HB.out))) : w.heap.size ≤ gb173))
        have n6_ := Aside0.mk ((by rw [hg]; exact Nat.ne_of_lt (blk_lt (g := gb165) (o := .cells #[.float .f64 a0_0, .float .f64 a0_1] 34 (0, 0)) (by (with_reducible repeat (first | refine blk_drewN ?_ _ | refine blk_drew ?_ | refine blk_alloc ?_ _)); exact BK165.out)) : gb165 ≠ gb173))
        have n7_ := Aside0.mk ((by rw [hg]; exact Nat.ne_of_gt (blk_lt (g := gb165) (o := .cells #[.float .f64 a0_0, .float .f64 a0_1] 34 (0, 0)) (by (with_reducible repeat (first | refine blk_drewN ?_ _ | refine blk_drew ?_ | refine blk_alloc ?_ _)); exact BK165.out)) : gb173 ≠ gb165))
        have n8_ := Aside0.mk ((by rw [hg]; exact Nat.ne_of_lt (blk_lt (g := gb166) (o := .cells #[.float .f64 a1_0, .float .f64 a1_1] 34 (0, 0)) (by (with_reducible repeat (first | refine blk_drewN ?_ _ | refine blk_drew ?_ | refine blk_alloc ?_ _)); exact BK166.out)) : gb166 ≠ gb173))
        have n9_ := Aside0.mk ((by rw [hg]; exact Nat.ne_of_gt (blk_lt (g := gb166) (o := .cells #[.float .f64 a1_0, .float .f64 a1_1] 34 (0, 0)) (by (with_reducible repeat (first | refine blk_drewN ?_ _ | refine blk_drew ?_ | refine blk_alloc ?_ _)); exact BK166.out)) : gb173 ≠ gb166))
        clear BK165
        clear BK166
        clear HB
        have BK165 := n0_
        have BK166 := n1_
        have HB := n2_
        have BK173 := n3_
        have GW173 := n4_
        have GE173 := n5_
        have NB165_173 := n6_
        have NB173_165 := n7_
        have NB166_173 := n8_
        have NB173_166 := n9_
        clear n0_ n1_ n2_ n3_ n4_ n5_ n6_ n7_ n8_ n9_
        clear hb hbox hg
        refine hK.out _ _ ⟨(blk_cell BK165.out 0).trans rfl, (blk_cell BK165.out 1).trans rfl, (blk_cell BK166.out 0).trans rfl, (blk_cell BK166.out 1).trans rfl⟩ (fun hHeld => ?_)
        clear hK K
        refine norm_ (a' := ?_) ?_ ?_
        rotate_left
        · show Act.put _ (some 5) _ = _
          simp only [Act.put, List.setIfInBounds_toArray, List.set_cons_zero, List.set_cons_succ, i64_w, i32_w]
          rfl
        refine one_ (i := 3) (N := some 10) #[true, true, true, true, false, true, false] rfl rfl (by kernel_rfl) (by decide) (fun K hK => ?_)
        refine goes_ Try.func19 (by kernel_rfl) rfl #[.agg #[.float .f64 a1_0, .float .f64 a1_1]] (by rfl) rfl rfl (by (try simp only [List.map_toArray, List.map_cons, List.map_nil]); first | done | rfl | (simp only [List.length_drop, List.length_take]; rfl)) ?_
        with_reducible refine (laws_toPhasor.calls a1_0 a1_1 t169 t170 _ A4.out).mono ?_
        rintro e w16 ⟨rfl, hb⟩
        refine ⟨_, rfl, ?_⟩
        have n0_ := Aside0.mk (blk_below (g := gb165) (o := .cells #[.float .f64 a0_0, .float .f64 a0_1] 34 (0, 0)) (by (with_reducible repeat (first | refine blk_drewN ?_ _ | refine blk_drew ?_ | refine blk_alloc ?_ _)); exact BK165.out) hb)
        have n1_ := Aside0.mk (blk_below (g := gb166) (o := .cells #[.float .f64 a1_0, .float .f64 a1_1] 34 (0, 0)) (by (with_reducible repeat (first | refine blk_drewN ?_ _ | refine blk_drew ?_ | refine blk_alloc ?_ _)); exact BK166.out) hb)
        have n2_ := Aside0.mk (blk_below (g := gb173) (o := .cells #[.float .f64 0, .float .f64 0] 28 (0, 0)) (by (with_reducible repeat (first | refine blk_drewN ?_ _ | refine blk_drew ?_ | refine blk_alloc ?_ _)); exact BK173.out) hb)
        have n3_ := Aside0.mk (below_step (by repeat (first | (with_reducible first | exact HB.out | apply below_alloc | apply pw_below_drewN | apply below_drew1 | refine below_set ?_ GE165.out | refine below_set ?_ GE166.out | refine below_set ?_ GE173.out) | exact HB.out)) hb)
        clear BK165
        clear BK166
        clear BK173
        clear HB
        have BK165 := n0_
        have BK166 := n1_
        have BK173 := n2_
        have HB := n3_
        clear n0_ n1_ n2_ n3_
        (try clear hb)
        (try clear hb2)
        (try clear hk)
        (try clear hi)
        refine hK.out _ _ ⟨(blk_cell BK165.out 0).trans rfl, (blk_cell BK165.out 1).trans rfl, (blk_cell BK166.out 0).trans rfl, (blk_cell BK166.out 1).trans rfl⟩ (fun hHeld => ?_)
        clear hK K
        refine norm_ (a' := ?_) ?_ ?_
        rotate_left
        · show Act.put _ (some 10) _ = _
          simp only [Act.put, List.setIfInBounds_toArray, List.set_cons_zero, List.set_cons_succ, i64_w, i32_w]
          rfl
        refine one_ (i := 4) (N := some 11) #[true, true, true, true, true, true, false] rfl rfl (by kernel_rfl) (by decide) (fun K hK => ?_)
        refine goes_ Try.func22 (by kernel_rfl) rfl #[.agg #[.float .f64 t167, .float .f64 t168], .agg #[.float .f64 t169, .float .f64 t170]] (by rfl) rfl rfl (by (try simp only [List.map_toArray, List.map_cons, List.map_nil]); first | done | rfl | (simp only [List.length_drop, List.length_take]; rfl)) ?_
        with_reducible refine (spec_PhTimes.callsN t167 t168 t169 t170 _).mono ?_
        rintro e w17 ⟨t171, t172, hP5, rfl, hb⟩
        refine ⟨_, rfl, ?_⟩
        have n0_ := Aside0.mk (blk_below (g := gb165) (o := .cells #[.float .f64 a0_0, .float .f64 a0_1] 34 (0, 0)) (by (with_reducible repeat (first | refine blk_drewN ?_ _ | refine blk_drew ?_ | refine blk_alloc ?_ _)); exact BK165.out) hb)
        have n1_ := Aside0.mk (blk_below (g := gb166) (o := .cells #[.float .f64 a1_0, .float .f64 a1_1] 34 (0, 0)) (by (with_reducible repeat (first | refine blk_drewN ?_ _ | refine blk_drew ?_ | refine blk_alloc ?_ _)); exact BK166.out) hb)
        have n2_ := Aside0.mk (blk_below (g := gb173) (o := .cells #[.float .f64 0, .float .f64 0] 28 (0, 0)) (by (with_reducible repeat (first | refine blk_drewN ?_ _ | refine blk_drew ?_ | refine blk_alloc ?_ _)); exact BK173.out) hb)
        have n3_ := Aside0.mk (below_step (by repeat (first | (with_reducible first | exact HB.out | apply below_alloc | apply pw_below_drewN | apply below_drew1 | refine below_set ?_ GE165.out | refine below_set ?_ GE166.out | refine below_set ?_ GE173.out) | exact HB.out)) hb)
        clear BK165
        clear BK166
        clear BK173
        clear HB
        have BK165 := n0_
        have BK166 := n1_
        have BK173 := n2_
        have HB := n3_
        clear n0_ n1_ n2_ n3_
        (try clear hb)
        (try clear hb2)
        (try clear hk)
        (try clear hi)
        refine hK.out _ _ ⟨(blk_cell BK165.out 0).trans rfl, (blk_cell BK165.out 1).trans rfl, (blk_cell BK166.out 0).trans rfl, (blk_cell BK166.out 1).trans rfl⟩ (fun hHeld => ?_)
        clear hK K
        refine norm_ (a' := ?_) ?_ ?_
        rotate_left
        · show Act.put _ (some 11) _ = _
          simp only [Act.put, List.setIfInBounds_toArray, List.set_cons_zero, List.set_cons_succ, i64_w, i32_w]
          rfl
        exact norm_ (by simp only [putAll, Act.put, List.setIfInBounds_toArray, List.set_cons_zero, List.set_cons_succ]) (hCont (gb173, t171, t172) _ ⟨hP5, hHeld, (by (with_reducible repeat (first | refine blk_drewN ?_ _ | refine blk_drew ?_ | refine blk_alloc ?_ _)); exact BK165.out), (by (with_reducible repeat (first | refine blk_drewN ?_ _ | refine blk_drew ?_ | refine blk_alloc ?_ _)); exact BK166.out), (by (with_reducible repeat (first | refine blk_drewN ?_ _ | refine blk_drew ?_ | refine blk_alloc ?_ _)); exact BK173.out), GW173.out, GE173.out, NB165_173.out, NB173_165.out, NB166_173.out, NB173_166.out, (by repeat (first | (with_reducible first | exact HB.out | apply below_alloc | apply pw_below_drewN | apply below_drew1 | refine below_set ?_ GE165.out | refine below_set ?_ GE166.out | refine below_set ?_ GE173.out) | exact HB.out))⟩)
    · skip
      refine box_step ?hg (N := 5) ?hd (cs := #[.float .f64 0, .float .f64 0]) (t := 28) ?hr ?_; (case hd => rfl); (case hg => rfl); (case hr => first | (go_simp; done) | (go_simp; rfl))
      intro gb173 hg w14 hbox hb
      have n0_ := Aside0.mk (blk_below (g := gb165) (o := .cells #[.float .f64 a0_0, .float .f64 a0_1] 34 (0, 0)) (by (with_reducible repeat (first | refine blk_drewN ?_ _ | refine blk_drew ?_ | refine blk_alloc ?_ _)); exact BK165.out) hb)
      have n1_ := Aside0.mk (blk_below (g := gb166) (o := .cells #[.float .f64 a1_0, .float .f64 a1_1] 34 (0, 0)) (by (with_reducible repeat (first | refine blk_drewN ?_ _ | refine blk_drew ?_ | refine blk_alloc ?_ _)); exact BK166.out) hb)
      have n2_ := Aside0.mk (below_step (by repeat (first | (with_reducible first | exact HB.out | apply below_alloc | apply pw_below_drewN | apply below_drew1 | refine below_set ?_ GE165.out | refine below_set ?_ GE166.out) | exact HB.out)) hb)
      have n3_ := Aside0.mk (hbox)
      have n4_ := Aside0.mk ((by rw [hg]; exact (below_size (by repeat (first | (with_reducible first | exact HB.out | apply below_alloc | apply pw_below_drewN | apply below_drew1 | refine below_set ?_ GE165.out | refine below_set ?_ GE166.out) | exact HB.out))) : w.heap.size ≤ gb173))
      have n5_ := Aside0.mk ((by rw [hg]; exact (below_size (by repeat (first | (with_reducible first | exact HB.out | apply below_alloc | apply pw_below_drewN | apply below_drew1 | refine below_set ?_ GE165.out | refine below_set ?_ GE166.out) | exact HB.out))) : w.heap.size ≤ gb173))
      have n6_ := Aside0.mk ((by rw [hg]; exact Nat.ne_of_lt (blk_lt (g := gb165) (o := .cells #[.float .f64 a0_0, .float .f64 a0_1] 34 (0, 0)) (by (with_reducible repeat (first | refine blk_drewN ?_ _ | refine blk_drew ?_ | refine blk_alloc ?_ _)); exact BK165.out)) : gb165 ≠ gb173))
      have n7_ := Aside0.mk ((by rw [hg]; exact Nat.ne_of_gt (blk_lt (g := gb165) (o := .cells #[.float .f64 a0_0, .float .f64 a0_1] 34 (0, 0)) (by (with_reducible repeat (first | refine blk_drewN ?_ _ | refine blk_drew ?_ | refine blk_alloc ?_ _)); exact BK165.out)) : gb173 ≠ gb165))
      have n8_ := Aside0.mk ((by rw [hg]; exact Nat.ne_of_lt (blk_lt (g := gb166) (o := .cells #[.float .f64 a1_0, .float .f64 a1_1] 34 (0, 0)) (by (with_reducible repeat (first | refine blk_drewN ?_ _ | refine blk_drew ?_ | refine blk_alloc ?_ _)); exact BK166.out)) : gb166 ≠ gb173))
      have n9_ := Aside0.mk ((by rw [hg]; exact Nat.ne_of_gt (blk_lt (g := gb166) (o := .cells #[.float .f64 a1_0, .float .f64 a1_1] 34 (0, 0)) (by (with_reducible repeat (first | refine blk_drewN ?_ _ | refine blk_drew ?_ | refine blk_alloc ?_ _)); exact BK166.out)) : gb173 ≠ gb166))
      clear BK165
      clear BK166
      clear HB
      have BK165 := n0_
      have BK166 := n1_
      have HB := n2_
      have BK173 := n3_
      have GW173 := n4_
      have GE173 := n5_
      have NB165_173 := n6_
      have NB173_165 := n7_
      have NB166_173 := n8_
      have NB173_166 := n9_
      clear n0_ n1_ n2_ n3_ n4_ n5_ n6_ n7_ n8_ n9_
      clear hb hbox hg
      refine hK.out _ _ ⟨(blk_cell BK165.out 0).trans rfl, (blk_cell BK165.out 1).trans rfl, (blk_cell BK166.out 0).trans rfl, (blk_cell BK166.out 1).trans rfl⟩ (fun hHeld => ?_)
      clear hK K
      refine norm_ (a' := ?_) ?_ ?_
      rotate_left
      · show Act.put _ (some 5) _ = _
        simp only [Act.put, List.setIfInBounds_toArray, List.set_cons_zero, List.set_cons_succ, i64_w, i32_w]
        rfl
      refine one_ (i := 1) (N := some 8) #[true, true, true, false, false, true, false] rfl rfl (by kernel_rfl) (by decide) (fun K hK => ?_)
      refine goes_ Try.func19 (by kernel_rfl) rfl #[.agg #[.float .f64 a0_0, .float .f64 a0_1]] (by rfl) rfl rfl (by (try simp only [List.map_toArray, List.map_cons, List.map_nil]); first | done | rfl | (simp only [List.length_drop, List.length_take]; rfl)) ?_
      with_reducible refine (laws_toPhasor.calls a0_0 a0_1 t167 t168 _ A3.out).mono ?_
      rintro e w15 ⟨rfl, hb⟩
      refine ⟨_, rfl, ?_⟩
      have n0_ := Aside0.mk (blk_below (g := gb165) (o := .cells #[.float .f64 a0_0, .float .f64 a0_1] 34 (0, 0)) (by (with_reducible repeat (first | refine blk_drewN ?_ _ | refine blk_drew ?_ | refine blk_alloc ?_ _)); exact BK165.out) hb)
      have n1_ := Aside0.mk (blk_below (g := gb166) (o := .cells #[.float .f64 a1_0, .float .f64 a1_1] 34 (0, 0)) (by (with_reducible repeat (first | refine blk_drewN ?_ _ | refine blk_drew ?_ | refine blk_alloc ?_ _)); exact BK166.out) hb)
      have n2_ := Aside0.mk (blk_below (g := gb173) (o := .cells #[.float .f64 0, .float .f64 0] 28 (0, 0)) (by (with_reducible repeat (first | refine blk_drewN ?_ _ | refine blk_drew ?_ | refine blk_alloc ?_ _)); exact BK173.out) hb)
      have n3_ := Aside0.mk (below_step (by repeat (first | (with_reducible first | exact HB.out | apply below_alloc | apply pw_below_drewN | apply below_drew1 | refine below_set ?_ GE165.out | refine below_set ?_ GE166.out | refine below_set ?_ GE173.out) | exact HB.out)) hb)
      clear BK165
      clear BK166
      clear BK173
      clear HB
      have BK165 := n0_
      have BK166 := n1_
      have BK173 := n2_
      have HB := n3_
      clear n0_ n1_ n2_ n3_
      (try clear hb)
      (try clear hb2)
      (try clear hk)
      (try clear hi)
      refine hK.out _ _ ⟨(blk_cell BK165.out 0).trans rfl, (blk_cell BK165.out 1).trans rfl, (blk_cell BK166.out 0).trans rfl, (blk_cell BK166.out 1).trans rfl⟩ (fun hHeld => ?_)
      clear hK K
      refine norm_ (a' := ?_) ?_ ?_
      rotate_left
      · show Act.put _ (some 8) _ = _
        simp only [Act.put, List.setIfInBounds_toArray, List.set_cons_zero, List.set_cons_succ, i64_w, i32_w]
        rfl
      refine one_ (i := 3) (N := some 10) #[true, true, true, true, false, true, false] rfl rfl (by kernel_rfl) (by decide) (fun K hK => ?_)
      refine goes_ Try.func19 (by kernel_rfl) rfl #[.agg #[.float .f64 a1_0, .float .f64 a1_1]] (by rfl) rfl rfl (by (try simp only [List.map_toArray, List.map_cons, List.map_nil]); first | done | rfl | (simp only [List.length_drop, List.length_take]; rfl)) ?_
      with_reducible refine (laws_toPhasor.calls a1_0 a1_1 t169 t170 _ A4.out).mono ?_
      rintro e w16 ⟨rfl, hb⟩
      refine ⟨_, rfl, ?_⟩
      have n0_ := Aside0.mk (blk_below (g := gb165) (o := .cells #[.float .f64 a0_0, .float .f64 a0_1] 34 (0, 0)) (by (with_reducible repeat (first | refine blk_drewN ?_ _ | refine blk_drew ?_ | refine blk_alloc ?_ _)); exact BK165.out) hb)
      have n1_ := Aside0.mk (blk_below (g := gb166) (o := .cells #[.float .f64 a1_0, .float .f64 a1_1] 34 (0, 0)) (by (with_reducible repeat (first | refine blk_drewN ?_ _ | refine blk_drew ?_ | refine blk_alloc ?_ _)); exact BK166.out) hb)
      have n2_ := Aside0.mk (blk_below (g := gb173) (o := .cells #[.float .f64 0, .float .f64 0] 28 (0, 0)) (by (with_reducible repeat (first | refine blk_drewN ?_ _ | refine blk_drew ?_ | refine blk_alloc ?_ _)); exact BK173.out) hb)
      have n3_ := Aside0.mk (below_step (by repeat (first | (with_reducible first | exact HB.out | apply below_alloc | apply pw_below_drewN | apply below_drew1 | refine below_set ?_ GE165.out | refine below_set ?_ GE166.out | refine below_set ?_ GE173.out) | exact HB.out)) hb)
      clear BK165
      clear BK166
      clear BK173
      clear HB
      have BK165 := n0_
      have BK166 := n1_
      have BK173 := n2_
      have HB := n3_
      clear n0_ n1_ n2_ n3_
      (try clear hb)
      (try clear hb2)
      (try clear hk)
      (try clear hi)
      refine hK.out _ _ ⟨(blk_cell BK165.out 0).trans rfl, (blk_cell BK165.out 1).trans rfl, (blk_cell BK166.out 0).trans rfl, (blk_cell BK166.out 1).trans rfl⟩ (fun hHeld => ?_)
      clear hK K
      refine norm_ (a' := ?_) ?_ ?_
      rotate_left
      · show Act.put _ (some 10) _ = _
        simp only [Act.put, List.setIfInBounds_toArray, List.set_cons_zero, List.set_cons_succ, i64_w, i32_w]
        rfl
      refine one_ (i := 4) (N := some 11) #[true, true, true, true, true, true, false] rfl rfl (by kernel_rfl) (by decide) (fun K hK => ?_)
      refine goes_ Try.func22 (by kernel_rfl) rfl #[.agg #[.float .f64 t167, .float .f64 t168], .agg #[.float .f64 t169, .float .f64 t170]] (by rfl) rfl rfl (by (try simp only [List.map_toArray, List.map_cons, List.map_nil]); first | done | rfl | (simp only [List.length_drop, List.length_take]; rfl)) ?_
      with_reducible refine (spec_PhTimes.callsN t167 t168 t169 t170 _).mono ?_
      rintro e w17 ⟨t171, t172, hP5, rfl, hb⟩
      refine ⟨_, rfl, ?_⟩
      have n0_ := Aside0.mk (blk_below (g := gb165) (o := .cells #[.float .f64 a0_0, .float .f64 a0_1] 34 (0, 0)) (by (with_reducible repeat (first | refine blk_drewN ?_ _ | refine blk_drew ?_ | refine blk_alloc ?_ _)); exact BK165.out) hb)
      have n1_ := Aside0.mk (blk_below (g := gb166) (o := .cells #[.float .f64 a1_0, .float .f64 a1_1] 34 (0, 0)) (by (with_reducible repeat (first | refine blk_drewN ?_ _ | refine blk_drew ?_ | refine blk_alloc ?_ _)); exact BK166.out) hb)
      have n2_ := Aside0.mk (blk_below (g := gb173) (o := .cells #[.float .f64 0, .float .f64 0] 28 (0, 0)) (by (with_reducible repeat (first | refine blk_drewN ?_ _ | refine blk_drew ?_ | refine blk_alloc ?_ _)); exact BK173.out) hb)
      have n3_ := Aside0.mk (below_step (by repeat (first | (with_reducible first | exact HB.out | apply below_alloc | apply pw_below_drewN | apply below_drew1 | refine below_set ?_ GE165.out | refine below_set ?_ GE166.out | refine below_set ?_ GE173.out) | exact HB.out)) hb)
      clear BK165
      clear BK166
      clear BK173
      clear HB
      have BK165 := n0_
      have BK166 := n1_
      have BK173 := n2_
      have HB := n3_
      clear n0_ n1_ n2_ n3_
      (try clear hb)
      (try clear hb2)
      (try clear hk)
      (try clear hi)
      refine hK.out _ _ ⟨(blk_cell BK165.out 0).trans rfl, (blk_cell BK165.out 1).trans rfl, (blk_cell BK166.out 0).trans rfl, (blk_cell BK166.out 1).trans rfl⟩ (fun hHeld => ?_)
      clear hK K
      refine norm_ (a' := ?_) ?_ ?_
      rotate_left
      · show Act.put _ (some 11) _ = _
        simp only [Act.put, List.setIfInBounds_toArray, List.set_cons_zero, List.set_cons_succ, i64_w, i32_w]
        rfl
      exact norm_ (by simp only [putAll, Act.put, List.setIfInBounds_toArray, List.set_cons_zero, List.set_cons_succ]) (hCont (gb173, t171, t172) _ ⟨hP5, hHeld, (by (with_reducible repeat (first | refine blk_drewN ?_ _ | refine blk_drew ?_ | refine blk_alloc ?_ _)); exact BK165.out), (by (with_reducible repeat (first | refine blk_drewN ?_ _ | refine blk_drew ?_ | refine blk_alloc ?_ _)); exact BK166.out), (by (with_reducible repeat (first | refine blk_drewN ?_ _ | refine blk_drew ?_ | refine blk_alloc ?_ _)); exact BK173.out), GW173.out, GE173.out, NB165_173.out, NB173_165.out, NB166_173.out, NB173_166.out, (by repeat (first | (with_reducible first | exact HB.out | apply below_alloc | apply pw_below_drewN | apply below_drew1 | refine below_set ?_ GE165.out | refine below_set ?_ GE166.out | refine below_set ?_ GE173.out) | exact HB.out))⟩)
  rintro ⟨gb173, t171, t172⟩ w18 ⟨hP5, hS_, h0_, h1_, h2_, h3_, h4_, h5_, h6_, h7_, h8_, h9_⟩
  replace hP5 : PT t167 t168 t169 t170 t171 t172 := hP5
  have n0_ : Aside0 (w18.heap[gb165]? = some (.cells #[.float .f64 a0_0, .float .f64 a0_1] 34 (0, 0))) := ⟨h0_⟩
  have n1_ : Aside0 (w18.heap[gb166]? = some (.cells #[.float .f64 a1_0, .float .f64 a1_1] 34 (0, 0))) := ⟨h1_⟩
  have n2_ : Aside0 (w18.heap[gb173]? = some (.cells #[.float .f64 0, .float .f64 0] 28 (0, 0))) := ⟨h2_⟩
  have n3_ : Aside0 (w.heap.size ≤ gb173) := ⟨h3_⟩
  have n4_ : Aside0 (w.heap.size ≤ gb173) := ⟨h4_⟩
  have n5_ : Aside0 (gb165 ≠ gb173) := ⟨h5_⟩
  have n6_ : Aside0 (gb173 ≠ gb165) := ⟨h6_⟩
  have n7_ : Aside0 (gb166 ≠ gb173) := ⟨h7_⟩
  have n8_ : Aside0 (gb173 ≠ gb166) := ⟨h8_⟩
  have n9_ : Aside0 (Below w.heap.size w w18) := ⟨h9_⟩
  clear BK165
  clear BK166
  clear HB
  clear h0_ h1_ h2_ h3_ h4_ h5_ h6_ h7_ h8_ h9_
  have BK165 := n0_
  have BK166 := n1_
  have BK173 := n2_
  have GW173 := n3_
  have GE173 := n4_
  have NB165_173 := n5_
  have NB173_165 := n6_
  have NB166_173 := n7_
  have NB173_166 := n8_
  have HB := n9_
  clear n0_ n1_ n2_ n3_ n4_ n5_ n6_ n7_ n8_ n9_
  have hHeld : w18.cell? ⟨gb165, 0, none⟩ = some (.float .f64 a0_0) ∧ w18.cell? ⟨gb165, 1, none⟩ = some (.float .f64 a0_1) ∧ w18.cell? ⟨gb166, 0, none⟩ = some (.float .f64 a1_0) ∧ w18.cell? ⟨gb166, 1, none⟩ = some (.float .f64 a1_1) := hS_
  refine norm_ (a' := ?_) ?_ ?_
  rotate_left
  · simp only [putAll, Act.put, List.setIfInBounds_toArray, List.set_cons_zero, List.set_cons_succ]
    rfl
  refine one_ (i := 6) (N := none) #[true, true, true, true, true, true, true] rfl rfl (by kernel_rfl) (by decide) (fun K hK => ?_)
  have hs19 : w18.cell? ⟨gb173, 0, none⟩ = some (.float .f64 0) := (blk_cell BK173.out 0).trans rfl
  have hfs19 := blk_frozen BK173.out 0
  have hns19_0 := NB165_173.out
  have hns19_1 := NB166_173.out
  have hms19_0 := NB173_165.out
  have hms19_1 := NB173_166.out
  have hs20 : w18.cell? ⟨gb173, 1, none⟩ = some (.float .f64 0) := (blk_cell BK173.out 1).trans rfl
  have hfs20 := blk_frozen BK173.out 1
  have hns20_0 := NB165_173.out
  have hns20_1 := NB166_173.out
  have hms20_0 := NB173_165.out
  have hms20_1 := NB173_166.out
  refine skip_ (w1 := ?_) (by rfl) rfl ?_ ?_
  rotate_left
  · go_simp
    rfl
  refine hK.out _ _ ⟨((cell_far (p := ⟨gb173, _, none⟩) NB165_173.out _).trans (((cell_far (p := ⟨gb173, _, none⟩) NB165_173.out _).trans (hHeld.1)))), ((cell_far (p := ⟨gb173, _, none⟩) NB165_173.out _).trans (((cell_far (p := ⟨gb173, _, none⟩) NB165_173.out _).trans (hHeld.2.1)))), ((cell_far (p := ⟨gb173, _, none⟩) NB166_173.out _).trans (((cell_far (p := ⟨gb173, _, none⟩) NB166_173.out _).trans (hHeld.2.2.1)))), ((cell_far (p := ⟨gb173, _, none⟩) NB166_173.out _).trans (((cell_far (p := ⟨gb173, _, none⟩) NB166_173.out _).trans (hHeld.2.2.2))))⟩ (fun hHeld => ?_)
  clear hK K
  refine done_ (by kernel_rfl) ?_
  try go_wp2
  have n0_ : Aside0 (((w18.setCell ⟨gb173, 0, none⟩ (.float .f64 t171)).setCell ⟨gb173, 1, none⟩ (.float .f64 t172)).heap[gb165]? = some (.cells #[.float .f64 a0_0, .float .f64 a0_1] 34 (0, 0))) := ⟨by (with_reducible repeat (first | refine blk_drewN ?_ _ | refine blk_drew ?_ | refine blk_alloc ?_ _)); refine blk_far ?_ NB165_173.out _; (with_reducible repeat (first | refine blk_drewN ?_ _ | refine blk_drew ?_ | refine blk_alloc ?_ _)); refine blk_far ?_ NB165_173.out _; (with_reducible repeat (first | refine blk_drewN ?_ _ | refine blk_drew ?_ | refine blk_alloc ?_ _)); exact BK165.out⟩
  have n1_ : Aside0 (((w18.setCell ⟨gb173, 0, none⟩ (.float .f64 t171)).setCell ⟨gb173, 1, none⟩ (.float .f64 t172)).heap[gb166]? = some (.cells #[.float .f64 a1_0, .float .f64 a1_1] 34 (0, 0))) := ⟨by (with_reducible repeat (first | refine blk_drewN ?_ _ | refine blk_drew ?_ | refine blk_alloc ?_ _)); refine blk_far ?_ NB166_173.out _; (with_reducible repeat (first | refine blk_drewN ?_ _ | refine blk_drew ?_ | refine blk_alloc ?_ _)); refine blk_far ?_ NB166_173.out _; (with_reducible repeat (first | refine blk_drewN ?_ _ | refine blk_drew ?_ | refine blk_alloc ?_ _)); exact BK166.out⟩
  have n2_ : Aside0 (((w18.setCell ⟨gb173, 0, none⟩ (.float .f64 t171)).setCell ⟨gb173, 1, none⟩ (.float .f64 t172)).heap[gb173]? = some (.cells #[.float .f64 t171, .float .f64 t172] 28 (0, 0))) := ⟨by (with_reducible repeat (first | refine blk_drewN ?_ _ | refine blk_drew ?_ | refine blk_alloc ?_ _)); refine blk_put (cs := #[.float .f64 t171, .float .f64 0]) ?_ 1 _ rfl; (with_reducible repeat (first | refine blk_drewN ?_ _ | refine blk_drew ?_ | refine blk_alloc ?_ _)); refine blk_put (cs := #[.float .f64 0, .float .f64 0]) ?_ 0 _ rfl; (with_reducible repeat (first | refine blk_drewN ?_ _ | refine blk_drew ?_ | refine blk_alloc ?_ _)); exact BK173.out⟩
  have n3_ : Aside0 (Below w.heap.size w ((w18.setCell ⟨gb173, 0, none⟩ (.float .f64 t171)).setCell ⟨gb173, 1, none⟩ (.float .f64 t172))) := ⟨by repeat (first | (with_reducible first | exact HB.out | apply below_alloc | apply pw_below_drewN | apply below_drew1 | refine below_set ?_ GE165.out | refine below_set ?_ GE166.out | refine below_set ?_ GE173.out) | exact HB.out)⟩
  (try clear BK165)
  (try clear BK166)
  (try clear BK173)
  (try clear HB)
  generalize ((w18.setCell ⟨gb173, 0, none⟩ (.float .f64 t171)).setCell ⟨gb173, 1, none⟩ (.float .f64 t172)) = w21 at n0_ n1_ n2_ n3_ ⊢
  have BK165 := n0_
  have BK166 := n1_
  have BK173 := n2_
  have HB := n3_
  clear n0_ n1_ n2_ n3_
  have n0_ := Aside0.mk (blk_drew BK165.out)
  have n1_ := Aside0.mk (blk_drew BK166.out)
  have n2_ := Aside0.mk (blk_drew BK173.out)
  have n3_ := Aside0.mk (below_drew1 HB.out)
  clear BK165
  clear BK166
  clear BK173
  clear HB
  have BK165 := n0_
  have BK166 := n1_
  have BK173 := n2_
  have HB := n3_
  clear n0_ n1_ n2_ n3_
  refine start_ (n := 7) (S := fun w' => w'.cell? ⟨gb165, 0, none⟩ = some (.float .f64 a0_0) ∧ w'.cell? ⟨gb165, 1, none⟩ = some (.float .f64 a0_1) ∧ w'.cell? ⟨gb166, 0, none⟩ = some (.float .f64 a1_0) ∧ w'.cell? ⟨gb166, 1, none⟩ = some (.float .f64 a1_1)) (ds := []) #[false, false, false, false, false, false, false] (by kernel_rfl) rfl rfl ⟨(blk_cell BK165.out 0).trans rfl, (blk_cell BK165.out 1).trans rfl, (blk_cell BK166.out 0).trans rfl, (blk_cell BK166.out 1).trans rfl⟩ (fun hHeld => ?_)
  generalize w21.drew = w22 at BK165 BK166 BK173 HB hHeld ⊢
  refine take_ (i := 0) (N := some 12) (v := ?_) (a' := ?_) #[true, false, false, false, false, false, false] rfl rfl (by kernel_rfl) (fun _ _ _ h => h) (Or.inl ⟨by rfl, ?_⟩) hHeld ?_ ?_
  rotate_left
  · rintro w' ⟨s0, s1, s2, s3⟩
    go_simp
    with_reducible rfl
  rotate_left
  · simp only [Act.put, List.setIfInBounds_toArray, List.set_cons_zero, List.set_cons_succ, i64_w, i32_w]
    rfl
  refine take_ (i := 2) (N := some 14) (v := ?_) (a' := ?_) #[true, false, true, false, false, false, false] rfl rfl (by kernel_rfl) (fun _ _ _ h => h) (Or.inl ⟨by rfl, ?_⟩) hHeld ?_ ?_
  rotate_left
  · rintro w' ⟨s0, s1, s2, s3⟩
    go_simp
    with_reducible rfl
  rotate_left
  · simp only [Act.put, List.setIfInBounds_toArray, List.set_cons_zero, List.set_cons_succ, i64_w, i32_w]
    rfl
  refine join_ (σ := Nat × Nat × Nat) 1 #[true, true, true, true, true, true, false] (fun s_ => [(13, .agg #[.float .f64 t174, .float .f64 t175]), (15, .agg #[.float .f64 t176, .float .f64 t177]), (16, .agg #[.float .f64 s_.2.1, .float .f64 s_.2.2]), (6, .pointer (some ⟨s_.1, 0, none⟩))]) (fun s_ w' => (PT t174 t175 t176 t177 s_.2.1 s_.2.2) ∧ (w'.cell? ⟨gb165, 0, none⟩ = some (.float .f64 a0_0) ∧ w'.cell? ⟨gb165, 1, none⟩ = some (.float .f64 a0_1) ∧ w'.cell? ⟨gb166, 0, none⟩ = some (.float .f64 a1_0) ∧ w'.cell? ⟨gb166, 1, none⟩ = some (.float .f64 a1_1)) ∧ (w'.heap[gb165]? = some (.cells #[.float .f64 a0_0, .float .f64 a0_1] 34 (0, 0))) ∧ (w'.heap[gb166]? = some (.cells #[.float .f64 a1_0, .float .f64 a1_1] 34 (0, 0))) ∧ (w'.heap[gb173]? = some (.cells #[.float .f64 t171, .float .f64 t172] 28 (0, 0))) ∧ (w'.heap[s_.1]? = some (.cells #[.float .f64 0, .float .f64 0] 28 (0, 0))) ∧ (w.heap.size ≤ s_.1) ∧ (w.heap.size ≤ s_.1) ∧ (gb165 ≠ s_.1) ∧ (s_.1 ≠ gb165) ∧ (gb166 ≠ s_.1) ∧ (s_.1 ≠ gb166) ∧ (gb173 ≠ s_.1) ∧ (s_.1 ≠ gb173) ∧ (Below w.heap.size w w')) ?_ ?_
  rotate_left
  · intro hCont
    refine two_ (i := 1) (j := 5) (Ni := some 13) (Nj := some 6) #[true, true, true, false, false, false, false] #[true, false, true, false, false, true, false] rfl rfl rfl rfl (by kernel_rfl) (by decide) (by decide) (fun K hK => ?_) (fun K hK => ?_)
    · skip
      refine goes_ Try.func19 (by kernel_rfl) rfl #[.agg #[.float .f64 a0_0, .float .f64 a0_1]] (by rfl) rfl rfl (by (try simp only [List.map_toArray, List.map_cons, List.map_nil]); first | done | rfl | (simp only [List.length_drop, List.length_take]; rfl)) ?_
      with_reducible refine (laws_toPhasor.calls a0_0 a0_1 t174 t175 _ A6.out).mono ?_
      rintro e w23 ⟨rfl, hb⟩
      refine ⟨_, rfl, ?_⟩
      have n0_ := Aside0.mk (blk_below (g := gb165) (o := .cells #[.float .f64 a0_0, .float .f64 a0_1] 34 (0, 0)) (by (with_reducible repeat (first | refine blk_drewN ?_ _ | refine blk_drew ?_ | refine blk_alloc ?_ _)); exact BK165.out) hb)
      have n1_ := Aside0.mk (blk_below (g := gb166) (o := .cells #[.float .f64 a1_0, .float .f64 a1_1] 34 (0, 0)) (by (with_reducible repeat (first | refine blk_drewN ?_ _ | refine blk_drew ?_ | refine blk_alloc ?_ _)); exact BK166.out) hb)
      have n2_ := Aside0.mk (blk_below (g := gb173) (o := .cells #[.float .f64 t171, .float .f64 t172] 28 (0, 0)) (by (with_reducible repeat (first | refine blk_drewN ?_ _ | refine blk_drew ?_ | refine blk_alloc ?_ _)); exact BK173.out) hb)
      have n3_ := Aside0.mk (below_step (by repeat (first | (with_reducible first | exact HB.out | apply below_alloc | apply pw_below_drewN | apply below_drew1 | refine below_set ?_ GE165.out | refine below_set ?_ GE166.out | refine below_set ?_ GE173.out) | exact HB.out)) hb)
      clear BK165
      clear BK166
      clear BK173
      clear HB
      have BK165 := n0_
      have BK166 := n1_
      have BK173 := n2_
      have HB := n3_
      clear n0_ n1_ n2_ n3_
      (try clear hb)
      (try clear hb2)
      (try clear hk)
      (try clear hi)
      refine hK.out _ _ ⟨(blk_cell BK165.out 0).trans rfl, (blk_cell BK165.out 1).trans rfl, (blk_cell BK166.out 0).trans rfl, (blk_cell BK166.out 1).trans rfl⟩ (fun hHeld => ?_)
      clear hK K
      refine norm_ (a' := ?_) ?_ ?_
      rotate_left
      · show Act.put _ (some 13) _ = _
        simp only [Act.put, List.setIfInBounds_toArray, List.set_cons_zero, List.set_cons_succ, i64_w, i32_w]
        rfl
      refine two_ (i := 3) (j := 5) (Ni := some 15) (Nj := some 6) #[true, true, true, true, false, false, false] #[true, true, true, false, false, true, false] rfl rfl rfl rfl (by kernel_rfl) (by decide) (by decide) (fun K hK => ?_) (fun K hK => ?_)
      · skip
        refine goes_ Try.func19 (by kernel_rfl) rfl #[.agg #[.float .f64 a1_0, .float .f64 a1_1]] (by rfl) rfl rfl (by (try simp only [List.map_toArray, List.map_cons, List.map_nil]); first | done | rfl | (simp only [List.length_drop, List.length_take]; rfl)) ?_
        with_reducible refine (laws_toPhasor.calls a1_0 a1_1 t176 t177 _ A7.out).mono ?_
        rintro e w24 ⟨rfl, hb⟩
        refine ⟨_, rfl, ?_⟩
        have n0_ := Aside0.mk (blk_below (g := gb165) (o := .cells #[.float .f64 a0_0, .float .f64 a0_1] 34 (0, 0)) (by (with_reducible repeat (first | refine blk_drewN ?_ _ | refine blk_drew ?_ | refine blk_alloc ?_ _)); exact BK165.out) hb)
        have n1_ := Aside0.mk (blk_below (g := gb166) (o := .cells #[.float .f64 a1_0, .float .f64 a1_1] 34 (0, 0)) (by (with_reducible repeat (first | refine blk_drewN ?_ _ | refine blk_drew ?_ | refine blk_alloc ?_ _)); exact BK166.out) hb)
        have n2_ := Aside0.mk (blk_below (g := gb173) (o := .cells #[.float .f64 t171, .float .f64 t172] 28 (0, 0)) (by (with_reducible repeat (first | refine blk_drewN ?_ _ | refine blk_drew ?_ | refine blk_alloc ?_ _)); exact BK173.out) hb)
        have n3_ := Aside0.mk (below_step (by repeat (first | (with_reducible first | exact HB.out | apply below_alloc | apply pw_below_drewN | apply below_drew1 | refine below_set ?_ GE165.out | refine below_set ?_ GE166.out | refine below_set ?_ GE173.out) | exact HB.out)) hb)
        clear BK165
        clear BK166
        clear BK173
        clear HB
        have BK165 := n0_
        have BK166 := n1_
        have BK173 := n2_
        have HB := n3_
        clear n0_ n1_ n2_ n3_
        (try clear hb)
        (try clear hb2)
        (try clear hk)
        (try clear hi)
        refine hK.out _ _ ⟨(blk_cell BK165.out 0).trans rfl, (blk_cell BK165.out 1).trans rfl, (blk_cell BK166.out 0).trans rfl, (blk_cell BK166.out 1).trans rfl⟩ (fun hHeld => ?_)
        clear hK K
        refine norm_ (a' := ?_) ?_ ?_
        rotate_left
        · show Act.put _ (some 15) _ = _
          simp only [Act.put, List.setIfInBounds_toArray, List.set_cons_zero, List.set_cons_succ, i64_w, i32_w]
          rfl
        refine two_ (i := 4) (j := 5) (Ni := some 16) (Nj := some 6) #[true, true, true, true, true, false, false] #[true, true, true, true, false, true, false] rfl rfl rfl rfl (by kernel_rfl) (by decide) (by decide) (fun K hK => ?_) (fun K hK => ?_)
        · skip
          refine goes_ Try.func23 (by kernel_rfl) rfl #[.agg #[.float .f64 t174, .float .f64 t175], .agg #[.float .f64 t176, .float .f64 t177]] (by rfl) rfl rfl (by (try simp only [List.map_toArray, List.map_cons, List.map_nil]); first | done | rfl | (simp only [List.length_drop, List.length_take]; rfl)) ?_
          with_reducible refine (impl_PhTimes.callsN t174 t175 t176 t177 _).mono ?_
          rintro e w25 ⟨t178, t179, hP8, rfl, hb⟩
          refine ⟨_, rfl, ?_⟩
          have n0_ := Aside0.mk (blk_below (g := gb165) (o := .cells #[.float .f64 a0_0, .float .f64 a0_1] 34 (0, 0)) (by (with_reducible repeat (first | refine blk_drewN ?_ _ | refine blk_drew ?_ | refine blk_alloc ?_ _)); exact BK165.out) hb)
          have n1_ := Aside0.mk (blk_below (g := gb166) (o := .cells #[.float .f64 a1_0, .float .f64 a1_1] 34 (0, 0)) (by (with_reducible repeat (first | refine blk_drewN ?_ _ | refine blk_drew ?_ | refine blk_alloc ?_ _)); exact BK166.out) hb)
          have n2_ := Aside0.mk (blk_below (g := gb173) (o := .cells #[.float .f64 t171, .float .f64 t172] 28 (0, 0)) (by (with_reducible repeat (first | refine blk_drewN ?_ _ | refine blk_drew ?_ | refine blk_alloc ?_ _)); exact BK173.out) hb)
          have n3_ := Aside0.mk (below_step (by repeat (first | (with_reducible first | exact HB.out | apply below_alloc | apply pw_below_drewN | apply below_drew1 | refine below_set ?_ GE165.out | refine below_set ?_ GE166.out | refine below_set ?_ GE173.out) | exact HB.out)) hb)
          clear BK165
          clear BK166
          clear BK173
          clear HB
          have BK165 := n0_
          have BK166 := n1_
          have BK173 := n2_
          have HB := n3_
          clear n0_ n1_ n2_ n3_
          (try clear hb)
          (try clear hb2)
          (try clear hk)
          (try clear hi)
          refine hK.out _ _ ⟨(blk_cell BK165.out 0).trans rfl, (blk_cell BK165.out 1).trans rfl, (blk_cell BK166.out 0).trans rfl, (blk_cell BK166.out 1).trans rfl⟩ (fun hHeld => ?_)
          clear hK K
          refine norm_ (a' := ?_) ?_ ?_
          rotate_left
          · show Act.put _ (some 16) _ = _
            simp only [Act.put, List.setIfInBounds_toArray, List.set_cons_zero, List.set_cons_succ, i64_w, i32_w]
            rfl
          refine one_ (i := 5) (N := some 6) #[true, true, true, true, true, true, false] rfl rfl (by kernel_rfl) (by decide) (fun K hK => ?_)
          refine box_step ?hg (N := 6) ?hd (cs := #[.float .f64 0, .float .f64 0]) (t := 28) ?hr ?_; (case hd => rfl); (case hg => rfl); (case hr => first | (go_simp; done) | (go_simp; rfl))
          intro gb180 hg w26 hbox hb
          have n0_ := Aside0.mk (blk_below (g := gb165) (o := .cells #[.float .f64 a0_0, .float .f64 a0_1] 34 (0, 0)) (by (with_reducible repeat (first | refine blk_drewN ?_ _ | refine blk_drew ?_ | refine blk_alloc ?_ _)); exact BK165.out) hb)
          have n1_ := Aside0.mk (blk_below (g := gb166) (o := .cells #[.float .f64 a1_0, .float .f64 a1_1] 34 (0, 0)) (by (with_reducible repeat (first | refine blk_drewN ?_ _ | refine blk_drew ?_ | refine blk_alloc ?_ _)); exact BK166.out) hb)
          have n2_ := Aside0.mk (blk_below (g := gb173) (o := .cells #[.float .f64 t171, .float .f64 t172] 28 (0, 0)) (by (with_reducible repeat (first | refine blk_drewN ?_ _ | refine blk_drew ?_ | refine blk_alloc ?_ _)); exact BK173.out) hb)
          have n3_ := Aside0.mk (below_step (by repeat (first | (with_reducible first | exact HB.out | apply below_alloc | apply pw_below_drewN | apply below_drew1 | refine below_set ?_ GE165.out | refine below_set ?_ GE166.out | refine below_set ?_ GE173.out) | exact HB.out)) hb)
          have n4_ := Aside0.mk (hbox)
          have n5_ := Aside0.mk ((by rw [hg]; exact (below_size (by repeat (first | (with_reducible first | exact HB.out | apply below_alloc | apply pw_below_drewN | apply below_drew1 | refine below_set ?_ GE165.out | refine below_set ?_ GE166.out | refine below_set ?_ GE173.out) | exact HB.out))) : w.heap.size ≤ gb180))
          have n6_ := Aside0.mk ((by rw [hg]; exact (below_size (by repeat (first | (with_reducible first | exact HB.out | apply below_alloc | apply pw_below_drewN | apply below_drew1 | refine below_set ?_ GE165.out | refine below_set ?_ GE166.out | refine below_set ?_ GE173.out) | exact HB.out))) : w.heap.size ≤ gb180))
          have n7_ := Aside0.mk ((by rw [hg]; exact Nat.ne_of_lt (blk_lt (g := gb165) (o := .cells #[.float .f64 a0_0, .float .f64 a0_1] 34 (0, 0)) (by (with_reducible repeat (first | refine blk_drewN ?_ _ | refine blk_drew ?_ | refine blk_alloc ?_ _)); exact BK165.out)) : gb165 ≠ gb180))
          have n8_ := Aside0.mk ((by rw [hg]; exact Nat.ne_of_gt (blk_lt (g := gb165) (o := .cells #[.float .f64 a0_0, .float .f64 a0_1] 34 (0, 0)) (by (with_reducible repeat (first | refine blk_drewN ?_ _ | refine blk_drew ?_ | refine blk_alloc ?_ _)); exact BK165.out)) : gb180 ≠ gb165))
          have n9_ := Aside0.mk ((by rw [hg]; exact Nat.ne_of_lt (blk_lt (g := gb166) (o := .cells #[.float .f64 a1_0, .float .f64 a1_1] 34 (0, 0)) (by (with_reducible repeat (first | refine blk_drewN ?_ _ | refine blk_drew ?_ | refine blk_alloc ?_ _)); exact BK166.out)) : gb166 ≠ gb180))
          have n10_ := Aside0.mk ((by rw [hg]; exact Nat.ne_of_gt (blk_lt (g := gb166) (o := .cells #[.float .f64 a1_0, .float .f64 a1_1] 34 (0, 0)) (by (with_reducible repeat (first | refine blk_drewN ?_ _ | refine blk_drew ?_ | refine blk_alloc ?_ _)); exact BK166.out)) : gb180 ≠ gb166))
          have n11_ := Aside0.mk ((by rw [hg]; exact Nat.ne_of_lt (blk_lt (g := gb173) (o := .cells #[.float .f64 t171, .float .f64 t172] 28 (0, 0)) (by (with_reducible repeat (first | refine blk_drewN ?_ _ | refine blk_drew ?_ | refine blk_alloc ?_ _)); exact BK173.out)) : gb173 ≠ gb180))
          have n12_ := Aside0.mk ((by rw [hg]; exact Nat.ne_of_gt (blk_lt (g := gb173) (o := .cells #[.float .f64 t171, .float .f64 t172] 28 (0, 0)) (by (with_reducible repeat (first | refine blk_drewN ?_ _ | refine blk_drew ?_ | refine blk_alloc ?_ _)); exact BK173.out)) : gb180 ≠ gb173))
          clear BK165
          clear BK166
          clear BK173
          clear HB
          have BK165 := n0_
          have BK166 := n1_
          have BK173 := n2_
          have HB := n3_
          have BK180 := n4_
          have GW180 := n5_
          have GE180 := n6_
          have NB165_180 := n7_
          have NB180_165 := n8_
          have NB166_180 := n9_
          have NB180_166 := n10_
          have NB173_180 := n11_
          have NB180_173 := n12_
          clear n0_ n1_ n2_ n3_ n4_ n5_ n6_ n7_ n8_ n9_ n10_ n11_ n12_
          clear hb hbox hg
          refine hK.out _ _ ⟨(blk_cell BK165.out 0).trans rfl, (blk_cell BK165.out 1).trans rfl, (blk_cell BK166.out 0).trans rfl, (blk_cell BK166.out 1).trans rfl⟩ (fun hHeld => ?_)
          clear hK K
          refine norm_ (a' := ?_) ?_ ?_
          rotate_left
          · show Act.put _ (some 6) _ = _
            simp only [Act.put, List.setIfInBounds_toArray, List.set_cons_zero, List.set_cons_succ, i64_w, i32_w]
            rfl
          exact norm_ (by simp only [putAll, Act.put, List.setIfInBounds_toArray, List.set_cons_zero, List.set_cons_succ]) (hCont (gb180, t178, t179) _ ⟨hP8, hHeld, (by (with_reducible repeat (first | refine blk_drewN ?_ _ | refine blk_drew ?_ | refine blk_alloc ?_ _)); exact BK165.out), (by (with_reducible repeat (first | refine blk_drewN ?_ _ | refine blk_drew ?_ | refine blk_alloc ?_ _)); exact BK166.out), (by (with_reducible repeat (first | refine blk_drewN ?_ _ | refine blk_drew ?_ | refine blk_alloc ?_ _)); exact BK173.out), (by (with_reducible repeat (first | refine blk_drewN ?_ _ | refine blk_drew ?_ | refine blk_alloc ?_ _)); exact BK180.out), GW180.out, GE180.out, NB165_180.out, NB180_165.out, NB166_180.out, NB180_166.out, NB173_180.out, NB180_173.out, (by repeat (first | (with_reducible first | exact HB.out | apply below_alloc | apply pw_below_drewN | apply below_drew1 | refine below_set ?_ GE165.out | refine below_set ?_ GE166.out | refine below_set ?_ GE173.out | refine below_set ?_ GE180.out) | exact HB.out))⟩)
        · skip
          refine box_step ?hg (N := 6) ?hd (cs := #[.float .f64 0, .float .f64 0]) (t := 28) ?hr ?_; (case hd => rfl); (case hg => rfl); (case hr => first | (go_simp; done) | (go_simp; rfl))
          intro gb180 hg w25 hbox hb
          have n0_ := Aside0.mk (blk_below (g := gb165) (o := .cells #[.float .f64 a0_0, .float .f64 a0_1] 34 (0, 0)) (by (with_reducible repeat (first | refine blk_drewN ?_ _ | refine blk_drew ?_ | refine blk_alloc ?_ _)); exact BK165.out) hb)
          have n1_ := Aside0.mk (blk_below (g := gb166) (o := .cells #[.float .f64 a1_0, .float .f64 a1_1] 34 (0, 0)) (by (with_reducible repeat (first | refine blk_drewN ?_ _ | refine blk_drew ?_ | refine blk_alloc ?_ _)); exact BK166.out) hb)
          have n2_ := Aside0.mk (blk_below (g := gb173) (o := .cells #[.float .f64 t171, .float .f64 t172] 28 (0, 0)) (by (with_reducible repeat (first | refine blk_drewN ?_ _ | refine blk_drew ?_ | refine blk_alloc ?_ _)); exact BK173.out) hb)
          have n3_ := Aside0.mk (below_step (by repeat (first | (with_reducible first | exact HB.out | apply below_alloc | apply pw_below_drewN | apply below_drew1 | refine below_set ?_ GE165.out | refine below_set ?_ GE166.out | refine below_set ?_ GE173.out) | exact HB.out)) hb)
          have n4_ := Aside0.mk (hbox)
          have n5_ := Aside0.mk ((by rw [hg]; exact (below_size (by repeat (first | (with_reducible first | exact HB.out | apply below_alloc | apply pw_below_drewN | apply below_drew1 | refine below_set ?_ GE165.out | refine below_set ?_ GE166.out | refine below_set ?_ GE173.out) | exact HB.out))) : w.heap.size ≤ gb180))
          have n6_ := Aside0.mk ((by rw [hg]; exact (below_size (by repeat (first | (with_reducible first | exact HB.out | apply below_alloc | apply pw_below_drewN | apply below_drew1 | refine below_set ?_ GE165.out | refine below_set ?_ GE166.out | refine below_set ?_ GE173.out) | exact HB.out))) : w.heap.size ≤ gb180))
          have n7_ := Aside0.mk ((by rw [hg]; exact Nat.ne_of_lt (blk_lt (g := gb165) (o := .cells #[.float .f64 a0_0, .float .f64 a0_1] 34 (0, 0)) (by (with_reducible repeat (first | refine blk_drewN ?_ _ | refine blk_drew ?_ | refine blk_alloc ?_ _)); exact BK165.out)) : gb165 ≠ gb180))
          have n8_ := Aside0.mk ((by rw [hg]; exact Nat.ne_of_gt (blk_lt (g := gb165) (o := .cells #[.float .f64 a0_0, .float .f64 a0_1] 34 (0, 0)) (by (with_reducible repeat (first | refine blk_drewN ?_ _ | refine blk_drew ?_ | refine blk_alloc ?_ _)); exact BK165.out)) : gb180 ≠ gb165))
          have n9_ := Aside0.mk ((by rw [hg]; exact Nat.ne_of_lt (blk_lt (g := gb166) (o := .cells #[.float .f64 a1_0, .float .f64 a1_1] 34 (0, 0)) (by (with_reducible repeat (first | refine blk_drewN ?_ _ | refine blk_drew ?_ | refine blk_alloc ?_ _)); exact BK166.out)) : gb166 ≠ gb180))
          have n10_ := Aside0.mk ((by rw [hg]; exact Nat.ne_of_gt (blk_lt (g := gb166) (o := .cells #[.float .f64 a1_0, .float .f64 a1_1] 34 (0, 0)) (by (with_reducible repeat (first | refine blk_drewN ?_ _ | refine blk_drew ?_ | refine blk_alloc ?_ _)); exact BK166.out)) : gb180 ≠ gb166))
          have n11_ := Aside0.mk ((by rw [hg]; exact Nat.ne_of_lt (blk_lt (g := gb173) (o := .cells #[.float .f64 t171, .float .f64 t172] 28 (0, 0)) (by (with_reducible repeat (first | refine blk_drewN ?_ _ | refine blk_drew ?_ | refine blk_alloc ?_ _)); exact BK173.out)) : gb173 ≠ gb180))
          have n12_ := Aside0.mk ((by rw [hg]; exact Nat.ne_of_gt (blk_lt (g := gb173) (o := .cells #[.float .f64 t171, .float .f64 t172] 28 (0, 0)) (by (with_reducible repeat (first | refine blk_drewN ?_ _ | refine blk_drew ?_ | refine blk_alloc ?_ _)); exact BK173.out)) : gb180 ≠ gb173))
          clear BK165
          clear BK166
          clear BK173
          clear HB
          have BK165 := n0_
          have BK166 := n1_
          have BK173 := n2_
          have HB := n3_
          have BK180 := n4_
          have GW180 := n5_
          have GE180 := n6_
          have NB165_180 := n7_
          have NB180_165 := n8_
          have NB166_180 := n9_
          have NB180_166 := n10_
          have NB173_180 := n11_
          have NB180_173 := n12_
          clear n0_ n1_ n2_ n3_ n4_ n5_ n6_ n7_ n8_ n9_ n10_ n11_ n12_
          clear hb hbox hg
          refine hK.out _ _ ⟨(blk_cell BK165.out 0).trans rfl, (blk_cell BK165.out 1).trans rfl, (blk_cell BK166.out 0).trans rfl, (blk_cell BK166.out 1).trans rfl⟩ (fun hHeld => ?_)
          clear hK K
          refine norm_ (a' := ?_) ?_ ?_
          rotate_left
          · show Act.put _ (some 6) _ = _
            simp only [Act.put, List.setIfInBounds_toArray, List.set_cons_zero, List.set_cons_succ, i64_w, i32_w]
            rfl
          refine one_ (i := 4) (N := some 16) #[true, true, true, true, true, true, false] rfl rfl (by kernel_rfl) (by decide) (fun K hK => ?_)
          refine goes_ Try.func23 (by kernel_rfl) rfl #[.agg #[.float .f64 t174, .float .f64 t175], .agg #[.float .f64 t176, .float .f64 t177]] (by rfl) rfl rfl (by (try simp only [List.map_toArray, List.map_cons, List.map_nil]); first | done | rfl | (simp only [List.length_drop, List.length_take]; rfl)) ?_
          with_reducible refine (impl_PhTimes.callsN t174 t175 t176 t177 _).mono ?_
          rintro e w26 ⟨t178, t179, hP8, rfl, hb⟩
          refine ⟨_, rfl, ?_⟩
          have n0_ := Aside0.mk (blk_below (g := gb165) (o := .cells #[.float .f64 a0_0, .float .f64 a0_1] 34 (0, 0)) (by (with_reducible repeat (first | refine blk_drewN ?_ _ | refine blk_drew ?_ | refine blk_alloc ?_ _)); exact BK165.out) hb)
          have n1_ := Aside0.mk (blk_below (g := gb166) (o := .cells #[.float .f64 a1_0, .float .f64 a1_1] 34 (0, 0)) (by (with_reducible repeat (first | refine blk_drewN ?_ _ | refine blk_drew ?_ | refine blk_alloc ?_ _)); exact BK166.out) hb)
          have n2_ := Aside0.mk (blk_below (g := gb173) (o := .cells #[.float .f64 t171, .float .f64 t172] 28 (0, 0)) (by (with_reducible repeat (first | refine blk_drewN ?_ _ | refine blk_drew ?_ | refine blk_alloc ?_ _)); exact BK173.out) hb)
          have n3_ := Aside0.mk (blk_below (g := gb180) (o := .cells #[.float .f64 0, .float .f64 0] 28 (0, 0)) (by (with_reducible repeat (first | refine blk_drewN ?_ _ | refine blk_drew ?_ | refine blk_alloc ?_ _)); exact BK180.out) hb)
          have n4_ := Aside0.mk (below_step (by repeat (first | (with_reducible first | exact HB.out | apply below_alloc | apply pw_below_drewN | apply below_drew1 | refine below_set ?_ GE165.out | refine below_set ?_ GE166.out | refine below_set ?_ GE173.out | refine below_set ?_ GE180.out) | exact HB.out)) hb)
          clear BK165
          clear BK166
          clear BK173
          clear BK180
          clear HB
          have BK165 := n0_
          have BK166 := n1_
          have BK173 := n2_
          have BK180 := n3_
          have HB := n4_
          clear n0_ n1_ n2_ n3_ n4_
          (try clear hb)
          (try clear hb2)
          (try clear hk)
          (try clear hi)
          refine hK.out _ _ ⟨(blk_cell BK165.out 0).trans rfl, (blk_cell BK165.out 1).trans rfl, (blk_cell BK166.out 0).trans rfl, (blk_cell BK166.out 1).trans rfl⟩ (fun hHeld => ?_)
          clear hK K
          refine norm_ (a' := ?_) ?_ ?_
          rotate_left
          · show Act.put _ (some 16) _ = _
            simp only [Act.put, List.setIfInBounds_toArray, List.set_cons_zero, List.set_cons_succ, i64_w, i32_w]
            rfl
          exact norm_ (by simp only [putAll, Act.put, List.setIfInBounds_toArray, List.set_cons_zero, List.set_cons_succ]) (hCont (gb180, t178, t179) _ ⟨hP8, hHeld, (by (with_reducible repeat (first | refine blk_drewN ?_ _ | refine blk_drew ?_ | refine blk_alloc ?_ _)); exact BK165.out), (by (with_reducible repeat (first | refine blk_drewN ?_ _ | refine blk_drew ?_ | refine blk_alloc ?_ _)); exact BK166.out), (by (with_reducible repeat (first | refine blk_drewN ?_ _ | refine blk_drew ?_ | refine blk_alloc ?_ _)); exact BK173.out), (by (with_reducible repeat (first | refine blk_drewN ?_ _ | refine blk_drew ?_ | refine blk_alloc ?_ _)); exact BK180.out), GW180.out, GE180.out, NB165_180.out, NB180_165.out, NB166_180.out, NB180_166.out, NB173_180.out, NB180_173.out, (by repeat (first | (with_reducible first | exact HB.out | apply below_alloc | apply pw_below_drewN | apply below_drew1 | refine below_set ?_ GE165.out | refine below_set ?_ GE166.out | refine below_set ?_ GE173.out | refine below_set ?_ GE180.out) | exact HB.out))⟩)
      · skip
        refine box_step ?hg (N := 6) ?hd (cs := #[.float .f64 0, .float .f64 0]) (t := 28) ?hr ?_; (case hd => rfl); (case hg => rfl); (case hr => first | (go_simp; done) | (go_simp; rfl))
        intro gb180 hg w24 hbox hb
        have n0_ := Aside0.mk (blk_below (g := gb165) (o := .cells #[.float .f64 a0_0, .float .f64 a0_1] 34 (0, 0)) (by (with_reducible repeat (first | refine blk_drewN ?_ _ | refine blk_drew ?_ | refine blk_alloc ?_ _)); exact BK165.out) hb)
        have n1_ := Aside0.mk (blk_below (g := gb166) (o := .cells #[.float .f64 a1_0, .float .f64 a1_1] 34 (0, 0)) (by (with_reducible repeat (first | refine blk_drewN ?_ _ | refine blk_drew ?_ | refine blk_alloc ?_ _)); exact BK166.out) hb)
        have n2_ := Aside0.mk (blk_below (g := gb173) (o := .cells #[.float .f64 t171, .float .f64 t172] 28 (0, 0)) (by (with_reducible repeat (first | refine blk_drewN ?_ _ | refine blk_drew ?_ | refine blk_alloc ?_ _)); exact BK173.out) hb)
        have n3_ := Aside0.mk (below_step (by repeat (first | (with_reducible first | exact HB.out | apply below_alloc | apply pw_below_drewN | apply below_drew1 | refine below_set ?_ GE165.out | refine below_set ?_ GE166.out | refine below_set ?_ GE173.out) | exact HB.out)) hb)
        have n4_ := Aside0.mk (hbox)
        have n5_ := Aside0.mk ((by rw [hg]; exact (below_size (by repeat (first | (with_reducible first | exact HB.out | apply below_alloc | apply pw_below_drewN | apply below_drew1 | refine below_set ?_ GE165.out | refine below_set ?_ GE166.out | refine below_set ?_ GE173.out) | exact HB.out))) : w.heap.size ≤ gb180))
        have n6_ := Aside0.mk ((by rw [hg]; exact (below_size (by repeat (first | (with_reducible first | exact HB.out | apply below_alloc | apply pw_below_drewN | apply below_drew1 | refine below_set ?_ GE165.out | refine below_set ?_ GE166.out | refine below_set ?_ GE173.out) | exact HB.out))) : w.heap.size ≤ gb180))
        have n7_ := Aside0.mk ((by rw [hg]; exact Nat.ne_of_lt (blk_lt (g := gb165) (o := .cells #[.float .f64 a0_0, .float .f64 a0_1] 34 (0, 0)) (by (with_reducible repeat (first | refine blk_drewN ?_ _ | refine blk_drew ?_ | refine blk_alloc ?_ _)); exact BK165.out)) : gb165 ≠ gb180))
        have n8_ := Aside0.mk ((by rw [hg]; exact Nat.ne_of_gt (blk_lt (g := gb165) (o := .cells #[.float .f64 a0_0, .float .f64 a0_1] 34 (0, 0)) (by (with_reducible repeat (first | refine blk_drewN ?_ _ | refine blk_drew ?_ | refine blk_alloc ?_ _)); exact BK165.out)) : gb180 ≠ gb165))
        have n9_ := Aside0.mk ((by rw [hg]; exact Nat.ne_of_lt (blk_lt (g := gb166) (o := .cells #[.float .f64 a1_0, .float .f64 a1_1] 34 (0, 0)) (by (with_reducible repeat (first | refine blk_drewN ?_ _ | refine blk_drew ?_ | refine blk_alloc ?_ _)); exact BK166.out)) : gb166 ≠ gb180))
        have n10_ := Aside0.mk ((by rw [hg]; exact Nat.ne_of_gt (blk_lt (g := gb166) (o := .cells #[.float .f64 a1_0, .float .f64 a1_1] 34 (0, 0)) (by (with_reducible repeat (first | refine blk_drewN ?_ _ | refine blk_drew ?_ | refine blk_alloc ?_ _)); exact BK166.out)) : gb180 ≠ gb166))
        have n11_ := Aside0.mk ((by rw [hg]; exact Nat.ne_of_lt (blk_lt (g := gb173) (o := .cells #[.float .f64 t171, .float .f64 t172] 28 (0, 0)) (by (with_reducible repeat (first | refine blk_drewN ?_ _ | refine blk_drew ?_ | refine blk_alloc ?_ _)); exact BK173.out)) : gb173 ≠ gb180))
        have n12_ := Aside0.mk ((by rw [hg]; exact Nat.ne_of_gt (blk_lt (g := gb173) (o := .cells #[.float .f64 t171, .float .f64 t172] 28 (0, 0)) (by (with_reducible repeat (first | refine blk_drewN ?_ _ | refine blk_drew ?_ | refine blk_alloc ?_ _)); exact BK173.out)) : gb180 ≠ gb173))
        clear BK165
        clear BK166
        clear BK173
        clear HB
        have BK165 := n0_
        have BK166 := n1_
        have BK173 := n2_
        have HB := n3_
        have BK180 := n4_
        have GW180 := n5_
        have GE180 := n6_
        have NB165_180 := n7_
        have NB180_165 := n8_
        have NB166_180 := n9_
        have NB180_166 := n10_
        have NB173_180 := n11_
        have NB180_173 := n12_
        clear n0_ n1_ n2_ n3_ n4_ n5_ n6_ n7_ n8_ n9_ n10_ n11_ n12_
        clear hb hbox hg
        refine hK.out _ _ ⟨(blk_cell BK165.out 0).trans rfl, (blk_cell BK165.out 1).trans rfl, (blk_cell BK166.out 0).trans rfl, (blk_cell BK166.out 1).trans rfl⟩ (fun hHeld => ?_)
        clear hK K
        refine norm_ (a' := ?_) ?_ ?_
        rotate_left
        · show Act.put _ (some 6) _ = _
          simp only [Act.put, List.setIfInBounds_toArray, List.set_cons_zero, List.set_cons_succ, i64_w, i32_w]
          rfl
        refine one_ (i := 3) (N := some 15) #[true, true, true, true, false, true, false] rfl rfl (by kernel_rfl) (by decide) (fun K hK => ?_)
        refine goes_ Try.func19 (by kernel_rfl) rfl #[.agg #[.float .f64 a1_0, .float .f64 a1_1]] (by rfl) rfl rfl (by (try simp only [List.map_toArray, List.map_cons, List.map_nil]); first | done | rfl | (simp only [List.length_drop, List.length_take]; rfl)) ?_
        with_reducible refine (laws_toPhasor.calls a1_0 a1_1 t176 t177 _ A7.out).mono ?_
        rintro e w25 ⟨rfl, hb⟩
        refine ⟨_, rfl, ?_⟩
        have n0_ := Aside0.mk (blk_below (g := gb165) (o := .cells #[.float .f64 a0_0, .float .f64 a0_1] 34 (0, 0)) (by (with_reducible repeat (first | refine blk_drewN ?_ _ | refine blk_drew ?_ | refine blk_alloc ?_ _)); exact BK165.out) hb)
        have n1_ := Aside0.mk (blk_below (g := gb166) (o := .cells #[.float .f64 a1_0, .float .f64 a1_1] 34 (0, 0)) (by (with_reducible repeat (first | refine blk_drewN ?_ _ | refine blk_drew ?_ | refine blk_alloc ?_ _)); exact BK166.out) hb)
        have n2_ := Aside0.mk (blk_below (g := gb173) (o := .cells #[.float .f64 t171, .float .f64 t172] 28 (0, 0)) (by (with_reducible repeat (first | refine blk_drewN ?_ _ | refine blk_drew ?_ | refine blk_alloc ?_ _)); exact BK173.out) hb)
        have n3_ := Aside0.mk (blk_below (g := gb180) (o := .cells #[.float .f64 0, .float .f64 0] 28 (0, 0)) (by (with_reducible repeat (first | refine blk_drewN ?_ _ | refine blk_drew ?_ | refine blk_alloc ?_ _)); exact BK180.out) hb)
        have n4_ := Aside0.mk (below_step (by repeat (first | (with_reducible first | exact HB.out | apply below_alloc | apply pw_below_drewN | apply below_drew1 | refine below_set ?_ GE165.out | refine below_set ?_ GE166.out | refine below_set ?_ GE173.out | refine below_set ?_ GE180.out) | exact HB.out)) hb)
        clear BK165
        clear BK166
        clear BK173
        clear BK180
        clear HB
        have BK165 := n0_
        have BK166 := n1_
        have BK173 := n2_
        have BK180 := n3_
        have HB := n4_
        clear n0_ n1_ n2_ n3_ n4_
        (try clear hb)
        (try clear hb2)
        (try clear hk)
        (try clear hi)
        refine hK.out _ _ ⟨(blk_cell BK165.out 0).trans rfl, (blk_cell BK165.out 1).trans rfl, (blk_cell BK166.out 0).trans rfl, (blk_cell BK166.out 1).trans rfl⟩ (fun hHeld => ?_)
        clear hK K
        refine norm_ (a' := ?_) ?_ ?_
        rotate_left
        · show Act.put _ (some 15) _ = _
          simp only [Act.put, List.setIfInBounds_toArray, List.set_cons_zero, List.set_cons_succ, i64_w, i32_w]
          rfl
        refine one_ (i := 4) (N := some 16) #[true, true, true, true, true, true, false] rfl rfl (by kernel_rfl) (by decide) (fun K hK => ?_)
        refine goes_ Try.func23 (by kernel_rfl) rfl #[.agg #[.float .f64 t174, .float .f64 t175], .agg #[.float .f64 t176, .float .f64 t177]] (by rfl) rfl rfl (by (try simp only [List.map_toArray, List.map_cons, List.map_nil]); first | done | rfl | (simp only [List.length_drop, List.length_take]; rfl)) ?_
        with_reducible refine (impl_PhTimes.callsN t174 t175 t176 t177 _).mono ?_
        rintro e w26 ⟨t178, t179, hP8, rfl, hb⟩
        refine ⟨_, rfl, ?_⟩
        have n0_ := Aside0.mk (blk_below (g := gb165) (o := .cells #[.float .f64 a0_0, .float .f64 a0_1] 34 (0, 0)) (by (with_reducible repeat (first | refine blk_drewN ?_ _ | refine blk_drew ?_ | refine blk_alloc ?_ _)); exact BK165.out) hb)
        have n1_ := Aside0.mk (blk_below (g := gb166) (o := .cells #[.float .f64 a1_0, .float .f64 a1_1] 34 (0, 0)) (by (with_reducible repeat (first | refine blk_drewN ?_ _ | refine blk_drew ?_ | refine blk_alloc ?_ _)); exact BK166.out) hb)
        have n2_ := Aside0.mk (blk_below (g := gb173) (o := .cells #[.float .f64 t171, .float .f64 t172] 28 (0, 0)) (by (with_reducible repeat (first | refine blk_drewN ?_ _ | refine blk_drew ?_ | refine blk_alloc ?_ _)); exact BK173.out) hb)
        have n3_ := Aside0.mk (blk_below (g := gb180) (o := .cells #[.float .f64 0, .float .f64 0] 28 (0, 0)) (by (with_reducible repeat (first | refine blk_drewN ?_ _ | refine blk_drew ?_ | refine blk_alloc ?_ _)); exact BK180.out) hb)
        have n4_ := Aside0.mk (below_step (by repeat (first | (with_reducible first | exact HB.out | apply below_alloc | apply pw_below_drewN | apply below_drew1 | refine below_set ?_ GE165.out | refine below_set ?_ GE166.out | refine below_set ?_ GE173.out | refine below_set ?_ GE180.out) | exact HB.out)) hb)
        clear BK165
        clear BK166
        clear BK173
        clear BK180
        clear HB
        have BK165 := n0_
        have BK166 := n1_
        have BK173 := n2_
        have BK180 := n3_
        have HB := n4_
        clear n0_ n1_ n2_ n3_ n4_
        (try clear hb)
        (try clear hb2)
        (try clear hk)
        (try clear hi)
        refine hK.out _ _ ⟨(blk_cell BK165.out 0).trans rfl, (blk_cell BK165.out 1).trans rfl, (blk_cell BK166.out 0).trans rfl, (blk_cell BK166.out 1).trans rfl⟩ (fun hHeld => ?_)
        clear hK K
        refine norm_ (a' := ?_) ?_ ?_
        rotate_left
        · show Act.put _ (some 16) _ = _
          simp only [Act.put, List.setIfInBounds_toArray, List.set_cons_zero, List.set_cons_succ, i64_w, i32_w]
          rfl
        exact norm_ (by simp only [putAll, Act.put, List.setIfInBounds_toArray, List.set_cons_zero, List.set_cons_succ]) (hCont (gb180, t178, t179) _ ⟨hP8, hHeld, (by (with_reducible repeat (first | refine blk_drewN ?_ _ | refine blk_drew ?_ | refine blk_alloc ?_ _)); exact BK165.out), (by (with_reducible repeat (first | refine blk_drewN ?_ _ | refine blk_drew ?_ | refine blk_alloc ?_ _)); exact BK166.out), (by (with_reducible repeat (first | refine blk_drewN ?_ _ | refine blk_drew ?_ | refine blk_alloc ?_ _)); exact BK173.out), (by (with_reducible repeat (first | refine blk_drewN ?_ _ | refine blk_drew ?_ | refine blk_alloc ?_ _)); exact BK180.out), GW180.out, GE180.out, NB165_180.out, NB180_165.out, NB166_180.out, NB180_166.out, NB173_180.out, NB180_173.out, (by repeat (first | (with_reducible first | exact HB.out | apply below_alloc | apply pw_below_drewN | apply below_drew1 | refine below_set ?_ GE165.out | refine below_set ?_ GE166.out | refine below_set ?_ GE173.out | refine below_set ?_ GE180.out) | exact HB.out))⟩)
    · skip
      refine box_step ?hg (N := 6) ?hd (cs := #[.float .f64 0, .float .f64 0]) (t := 28) ?hr ?_; (case hd => rfl); (case hg => rfl); (case hr => first | (go_simp; done) | (go_simp; rfl))
      intro gb180 hg w23 hbox hb
      have n0_ := Aside0.mk (blk_below (g := gb165) (o := .cells #[.float .f64 a0_0, .float .f64 a0_1] 34 (0, 0)) (by (with_reducible repeat (first | refine blk_drewN ?_ _ | refine blk_drew ?_ | refine blk_alloc ?_ _)); exact BK165.out) hb)
      have n1_ := Aside0.mk (blk_below (g := gb166) (o := .cells #[.float .f64 a1_0, .float .f64 a1_1] 34 (0, 0)) (by (with_reducible repeat (first | refine blk_drewN ?_ _ | refine blk_drew ?_ | refine blk_alloc ?_ _)); exact BK166.out) hb)
      have n2_ := Aside0.mk (blk_below (g := gb173) (o := .cells #[.float .f64 t171, .float .f64 t172] 28 (0, 0)) (by (with_reducible repeat (first | refine blk_drewN ?_ _ | refine blk_drew ?_ | refine blk_alloc ?_ _)); exact BK173.out) hb)
      have n3_ := Aside0.mk (below_step (by repeat (first | (with_reducible first | exact HB.out | apply below_alloc | apply pw_below_drewN | apply below_drew1 | refine below_set ?_ GE165.out | refine below_set ?_ GE166.out | refine below_set ?_ GE173.out) | exact HB.out)) hb)
      have n4_ := Aside0.mk (hbox)
      have n5_ := Aside0.mk ((by rw [hg]; exact (below_size (by repeat (first | (with_reducible first | exact HB.out | apply below_alloc | apply pw_below_drewN | apply below_drew1 | refine below_set ?_ GE165.out | refine below_set ?_ GE166.out | refine below_set ?_ GE173.out) | exact HB.out))) : w.heap.size ≤ gb180))
      have n6_ := Aside0.mk ((by rw [hg]; exact (below_size (by repeat (first | (with_reducible first | exact HB.out | apply below_alloc | apply pw_below_drewN | apply below_drew1 | refine below_set ?_ GE165.out | refine below_set ?_ GE166.out | refine below_set ?_ GE173.out) | exact HB.out))) : w.heap.size ≤ gb180))
      have n7_ := Aside0.mk ((by rw [hg]; exact Nat.ne_of_lt (blk_lt (g := gb165) (o := .cells #[.float .f64 a0_0, .float .f64 a0_1] 34 (0, 0)) (by (with_reducible repeat (first | refine blk_drewN ?_ _ | refine blk_drew ?_ | refine blk_alloc ?_ _)); exact BK165.out)) : gb165 ≠ gb180))
      have n8_ := Aside0.mk ((by rw [hg]; exact Nat.ne_of_gt (blk_lt (g := gb165) (o := .cells #[.float .f64 a0_0, .float .f64 a0_1] 34 (0, 0)) (by (with_reducible repeat (first | refine blk_drewN ?_ _ | refine blk_drew ?_ | refine blk_alloc ?_ _)); exact BK165.out)) : gb180 ≠ gb165))
      have n9_ := Aside0.mk ((by rw [hg]; exact Nat.ne_of_lt (blk_lt (g := gb166) (o := .cells #[.float .f64 a1_0, .float .f64 a1_1] 34 (0, 0)) (by (with_reducible repeat (first | refine blk_drewN ?_ _ | refine blk_drew ?_ | refine blk_alloc ?_ _)); exact BK166.out)) : gb166 ≠ gb180))
      have n10_ := Aside0.mk ((by rw [hg]; exact Nat.ne_of_gt (blk_lt (g := gb166) (o := .cells #[.float .f64 a1_0, .float .f64 a1_1] 34 (0, 0)) (by (with_reducible repeat (first | refine blk_drewN ?_ _ | refine blk_drew ?_ | refine blk_alloc ?_ _)); exact BK166.out)) : gb180 ≠ gb166))
      have n11_ := Aside0.mk ((by rw [hg]; exact Nat.ne_of_lt (blk_lt (g := gb173) (o := .cells #[.float .f64 t171, .float .f64 t172] 28 (0, 0)) (by (with_reducible repeat (first | refine blk_drewN ?_ _ | refine blk_drew ?_ | refine blk_alloc ?_ _)); exact BK173.out)) : gb173 ≠ gb180))
      have n12_ := Aside0.mk ((by rw [hg]; exact Nat.ne_of_gt (blk_lt (g := gb173) (o := .cells #[.float .f64 t171, .float .f64 t172] 28 (0, 0)) (by (with_reducible repeat (first | refine blk_drewN ?_ _ | refine blk_drew ?_ | refine blk_alloc ?_ _)); exact BK173.out)) : gb180 ≠ gb173))
      clear BK165
      clear BK166
      clear BK173
      clear HB
      have BK165 := n0_
      have BK166 := n1_
      have BK173 := n2_
      have HB := n3_
      have BK180 := n4_
      have GW180 := n5_
      have GE180 := n6_
      have NB165_180 := n7_
      have NB180_165 := n8_
      have NB166_180 := n9_
      have NB180_166 := n10_
      have NB173_180 := n11_
      have NB180_173 := n12_
      clear n0_ n1_ n2_ n3_ n4_ n5_ n6_ n7_ n8_ n9_ n10_ n11_ n12_
      clear hb hbox hg
      refine hK.out _ _ ⟨(blk_cell BK165.out 0).trans rfl, (blk_cell BK165.out 1).trans rfl, (blk_cell BK166.out 0).trans rfl, (blk_cell BK166.out 1).trans rfl⟩ (fun hHeld => ?_)
      clear hK K
      refine norm_ (a' := ?_) ?_ ?_
      rotate_left
      · show Act.put _ (some 6) _ = _
        simp only [Act.put, List.setIfInBounds_toArray, List.set_cons_zero, List.set_cons_succ, i64_w, i32_w]
        rfl
      refine one_ (i := 1) (N := some 13) #[true, true, true, false, false, true, false] rfl rfl (by kernel_rfl) (by decide) (fun K hK => ?_)
      refine goes_ Try.func19 (by kernel_rfl) rfl #[.agg #[.float .f64 a0_0, .float .f64 a0_1]] (by rfl) rfl rfl (by (try simp only [List.map_toArray, List.map_cons, List.map_nil]); first | done | rfl | (simp only [List.length_drop, List.length_take]; rfl)) ?_
      with_reducible refine (laws_toPhasor.calls a0_0 a0_1 t174 t175 _ A6.out).mono ?_
      rintro e w24 ⟨rfl, hb⟩
      refine ⟨_, rfl, ?_⟩
      have n0_ := Aside0.mk (blk_below (g := gb165) (o := .cells #[.float .f64 a0_0, .float .f64 a0_1] 34 (0, 0)) (by (with_reducible repeat (first | refine blk_drewN ?_ _ | refine blk_drew ?_ | refine blk_alloc ?_ _)); exact BK165.out) hb)
      have n1_ := Aside0.mk (blk_below (g := gb166) (o := .cells #[.float .f64 a1_0, .float .f64 a1_1] 34 (0, 0)) (by (with_reducible repeat (first | refine blk_drewN ?_ _ | refine blk_drew ?_ | refine blk_alloc ?_ _)); exact BK166.out) hb)
      have n2_ := Aside0.mk (blk_below (g := gb173) (o := .cells #[.float .f64 t171, .float .f64 t172] 28 (0, 0)) (by (with_reducible repeat (first | refine blk_drewN ?_ _ | refine blk_drew ?_ | refine blk_alloc ?_ _)); exact BK173.out) hb)
      have n3_ := Aside0.mk (blk_below (g := gb180) (o := .cells #[.float .f64 0, .float .f64 0] 28 (0, 0)) (by (with_reducible repeat (first | refine blk_drewN ?_ _ | refine blk_drew ?_ | refine blk_alloc ?_ _)); exact BK180.out) hb)
      have n4_ := Aside0.mk (below_step (by repeat (first | (with_reducible first | exact HB.out | apply below_alloc | apply pw_below_drewN | apply below_drew1 | refine below_set ?_ GE165.out | refine below_set ?_ GE166.out | refine below_set ?_ GE173.out | refine below_set ?_ GE180.out) | exact HB.out)) hb)
      clear BK165
      clear BK166
      clear BK173
      clear BK180
      clear HB
      have BK165 := n0_
      have BK166 := n1_
      have BK173 := n2_
      have BK180 := n3_
      have HB := n4_
      clear n0_ n1_ n2_ n3_ n4_
      (try clear hb)
      (try clear hb2)
      (try clear hk)
      (try clear hi)
      refine hK.out _ _ ⟨(blk_cell BK165.out 0).trans rfl, (blk_cell BK165.out 1).trans rfl, (blk_cell BK166.out 0).trans rfl, (blk_cell BK166.out 1).trans rfl⟩ (fun hHeld => ?_)
      clear hK K
      refine norm_ (a' := ?_) ?_ ?_
      rotate_left
      · show Act.put _ (some 13) _ = _
        simp only [Act.put, List.setIfInBounds_toArray, List.set_cons_zero, List.set_cons_succ, i64_w, i32_w]
        rfl
      refine one_ (i := 3) (N := some 15) #[true, true, true, true, false, true, false] rfl rfl (by kernel_rfl) (by decide) (fun K hK => ?_)
      refine goes_ Try.func19 (by kernel_rfl) rfl #[.agg #[.float .f64 a1_0, .float .f64 a1_1]] (by rfl) rfl rfl (by (try simp only [List.map_toArray, List.map_cons, List.map_nil]); first | done | rfl | (simp only [List.length_drop, List.length_take]; rfl)) ?_
      with_reducible refine (laws_toPhasor.calls a1_0 a1_1 t176 t177 _ A7.out).mono ?_
      rintro e w25 ⟨rfl, hb⟩
      refine ⟨_, rfl, ?_⟩
      have n0_ := Aside0.mk (blk_below (g := gb165) (o := .cells #[.float .f64 a0_0, .float .f64 a0_1] 34 (0, 0)) (by (with_reducible repeat (first | refine blk_drewN ?_ _ | refine blk_drew ?_ | refine blk_alloc ?_ _)); exact BK165.out) hb)
      have n1_ := Aside0.mk (blk_below (g := gb166) (o := .cells #[.float .f64 a1_0, .float .f64 a1_1] 34 (0, 0)) (by (with_reducible repeat (first | refine blk_drewN ?_ _ | refine blk_drew ?_ | refine blk_alloc ?_ _)); exact BK166.out) hb)
      have n2_ := Aside0.mk (blk_below (g := gb173) (o := .cells #[.float .f64 t171, .float .f64 t172] 28 (0, 0)) (by (with_reducible repeat (first | refine blk_drewN ?_ _ | refine blk_drew ?_ | refine blk_alloc ?_ _)); exact BK173.out) hb)
      have n3_ := Aside0.mk (blk_below (g := gb180) (o := .cells #[.float .f64 0, .float .f64 0] 28 (0, 0)) (by (with_reducible repeat (first | refine blk_drewN ?_ _ | refine blk_drew ?_ | refine blk_alloc ?_ _)); exact BK180.out) hb)
      have n4_ := Aside0.mk (below_step (by repeat (first | (with_reducible first | exact HB.out | apply below_alloc | apply pw_below_drewN | apply below_drew1 | refine below_set ?_ GE165.out | refine below_set ?_ GE166.out | refine below_set ?_ GE173.out | refine below_set ?_ GE180.out) | exact HB.out)) hb)
      clear BK165
      clear BK166
      clear BK173
      clear BK180
      clear HB
      have BK165 := n0_
      have BK166 := n1_
      have BK173 := n2_
      have BK180 := n3_
      have HB := n4_
      clear n0_ n1_ n2_ n3_ n4_
      (try clear hb)
      (try clear hb2)
      (try clear hk)
      (try clear hi)
      refine hK.out _ _ ⟨(blk_cell BK165.out 0).trans rfl, (blk_cell BK165.out 1).trans rfl, (blk_cell BK166.out 0).trans rfl, (blk_cell BK166.out 1).trans rfl⟩ (fun hHeld => ?_)
      clear hK K
      refine norm_ (a' := ?_) ?_ ?_
      rotate_left
      · show Act.put _ (some 15) _ = _
        simp only [Act.put, List.setIfInBounds_toArray, List.set_cons_zero, List.set_cons_succ, i64_w, i32_w]
        rfl
      refine one_ (i := 4) (N := some 16) #[true, true, true, true, true, true, false] rfl rfl (by kernel_rfl) (by decide) (fun K hK => ?_)
      refine goes_ Try.func23 (by kernel_rfl) rfl #[.agg #[.float .f64 t174, .float .f64 t175], .agg #[.float .f64 t176, .float .f64 t177]] (by rfl) rfl rfl (by (try simp only [List.map_toArray, List.map_cons, List.map_nil]); first | done | rfl | (simp only [List.length_drop, List.length_take]; rfl)) ?_
      with_reducible refine (impl_PhTimes.callsN t174 t175 t176 t177 _).mono ?_
      rintro e w26 ⟨t178, t179, hP8, rfl, hb⟩
      refine ⟨_, rfl, ?_⟩
      have n0_ := Aside0.mk (blk_below (g := gb165) (o := .cells #[.float .f64 a0_0, .float .f64 a0_1] 34 (0, 0)) (by (with_reducible repeat (first | refine blk_drewN ?_ _ | refine blk_drew ?_ | refine blk_alloc ?_ _)); exact BK165.out) hb)
      have n1_ := Aside0.mk (blk_below (g := gb166) (o := .cells #[.float .f64 a1_0, .float .f64 a1_1] 34 (0, 0)) (by (with_reducible repeat (first | refine blk_drewN ?_ _ | refine blk_drew ?_ | refine blk_alloc ?_ _)); exact BK166.out) hb)
      have n2_ := Aside0.mk (blk_below (g := gb173) (o := .cells #[.float .f64 t171, .float .f64 t172] 28 (0, 0)) (by (with_reducible repeat (first | refine blk_drewN ?_ _ | refine blk_drew ?_ | refine blk_alloc ?_ _)); exact BK173.out) hb)
      have n3_ := Aside0.mk (blk_below (g := gb180) (o := .cells #[.float .f64 0, .float .f64 0] 28 (0, 0)) (by (with_reducible repeat (first | refine blk_drewN ?_ _ | refine blk_drew ?_ | refine blk_alloc ?_ _)); exact BK180.out) hb)
      have n4_ := Aside0.mk (below_step (by repeat (first | (with_reducible first | exact HB.out | apply below_alloc | apply pw_below_drewN | apply below_drew1 | refine below_set ?_ GE165.out | refine below_set ?_ GE166.out | refine below_set ?_ GE173.out | refine below_set ?_ GE180.out) | exact HB.out)) hb)
      clear BK165
      clear BK166
      clear BK173
      clear BK180
      clear HB
      have BK165 := n0_
      have BK166 := n1_
      have BK173 := n2_
      have BK180 := n3_
      have HB := n4_
      clear n0_ n1_ n2_ n3_ n4_
      (try clear hb)
      (try clear hb2)
      (try clear hk)
      (try clear hi)
      refine hK.out _ _ ⟨(blk_cell BK165.out 0).trans rfl, (blk_cell BK165.out 1).trans rfl, (blk_cell BK166.out 0).trans rfl, (blk_cell BK166.out 1).trans rfl⟩ (fun hHeld => ?_)
      clear hK K
      refine norm_ (a' := ?_) ?_ ?_
      rotate_left
      · show Act.put _ (some 16) _ = _
        simp only [Act.put, List.setIfInBounds_toArray, List.set_cons_zero, List.set_cons_succ, i64_w, i32_w]
        rfl
      exact norm_ (by simp only [putAll, Act.put, List.setIfInBounds_toArray, List.set_cons_zero, List.set_cons_succ]) (hCont (gb180, t178, t179) _ ⟨hP8, hHeld, (by (with_reducible repeat (first | refine blk_drewN ?_ _ | refine blk_drew ?_ | refine blk_alloc ?_ _)); exact BK165.out), (by (with_reducible repeat (first | refine blk_drewN ?_ _ | refine blk_drew ?_ | refine blk_alloc ?_ _)); exact BK166.out), (by (with_reducible repeat (first | refine blk_drewN ?_ _ | refine blk_drew ?_ | refine blk_alloc ?_ _)); exact BK173.out), (by (with_reducible repeat (first | refine blk_drewN ?_ _ | refine blk_drew ?_ | refine blk_alloc ?_ _)); exact BK180.out), GW180.out, GE180.out, NB165_180.out, NB180_165.out, NB166_180.out, NB180_166.out, NB173_180.out, NB180_173.out, (by repeat (first | (with_reducible first | exact HB.out | apply below_alloc | apply pw_below_drewN | apply below_drew1 | refine below_set ?_ GE165.out | refine below_set ?_ GE166.out | refine below_set ?_ GE173.out | refine below_set ?_ GE180.out) | exact HB.out))⟩)
  rintro ⟨gb180, t178, t179⟩ w27 ⟨hP8, hS_, h0_, h1_, h2_, h3_, h4_, h5_, h6_, h7_, h8_, h9_, h10_, h11_, h12_⟩
  replace hP8 : PT t174 t175 t176 t177 t178 t179 := hP8
  have n0_ : Aside0 (w27.heap[gb165]? = some (.cells #[.float .f64 a0_0, .float .f64 a0_1] 34 (0, 0))) := ⟨h0_⟩
  have n1_ : Aside0 (w27.heap[gb166]? = some (.cells #[.float .f64 a1_0, .float .f64 a1_1] 34 (0, 0))) := ⟨h1_⟩
  have n2_ : Aside0 (w27.heap[gb173]? = some (.cells #[.float .f64 t171, .float .f64 t172] 28 (0, 0))) := ⟨h2_⟩
  have n3_ : Aside0 (w27.heap[gb180]? = some (.cells #[.float .f64 0, .float .f64 0] 28 (0, 0))) := ⟨h3_⟩
  have n4_ : Aside0 (w.heap.size ≤ gb180) := ⟨h4_⟩
  have n5_ : Aside0 (w.heap.size ≤ gb180) := ⟨h5_⟩
  have n6_ : Aside0 (gb165 ≠ gb180) := ⟨h6_⟩
  have n7_ : Aside0 (gb180 ≠ gb165) := ⟨h7_⟩
  have n8_ : Aside0 (gb166 ≠ gb180) := ⟨h8_⟩
  have n9_ : Aside0 (gb180 ≠ gb166) := ⟨h9_⟩
  have n10_ : Aside0 (gb173 ≠ gb180) := ⟨h10_⟩
  have n11_ : Aside0 (gb180 ≠ gb173) := ⟨h11_⟩
  have n12_ : Aside0 (Below w.heap.size w w27) := ⟨h12_⟩
  clear BK165
  clear BK166
  clear BK173
  clear HB
  clear h0_ h1_ h2_ h3_ h4_ h5_ h6_ h7_ h8_ h9_ h10_ h11_ h12_
  have BK165 := n0_
  have BK166 := n1_
  have BK173 := n2_
  have BK180 := n3_
  have GW180 := n4_
  have GE180 := n5_
  have NB165_180 := n6_
  have NB180_165 := n7_
  have NB166_180 := n8_
  have NB180_166 := n9_
  have NB173_180 := n10_
  have NB180_173 := n11_
  have HB := n12_
  clear n0_ n1_ n2_ n3_ n4_ n5_ n6_ n7_ n8_ n9_ n10_ n11_ n12_
  have hHeld : w27.cell? ⟨gb165, 0, none⟩ = some (.float .f64 a0_0) ∧ w27.cell? ⟨gb165, 1, none⟩ = some (.float .f64 a0_1) ∧ w27.cell? ⟨gb166, 0, none⟩ = some (.float .f64 a1_0) ∧ w27.cell? ⟨gb166, 1, none⟩ = some (.float .f64 a1_1) := hS_
  refine norm_ (a' := ?_) ?_ ?_
  rotate_left
  · simp only [putAll, Act.put, List.setIfInBounds_toArray, List.set_cons_zero, List.set_cons_succ]
    rfl
  refine one_ (i := 6) (N := none) #[true, true, true, true, true, true, true] rfl rfl (by kernel_rfl) (by decide) (fun K hK => ?_)
  have hs28 : w27.cell? ⟨gb180, 0, none⟩ = some (.float .f64 0) := (blk_cell BK180.out 0).trans rfl
  have hfs28 := blk_frozen BK180.out 0
  have hns28_0 := NB165_180.out
  have hns28_1 := NB166_180.out
  have hns28_2 := NB173_180.out
  have hms28_0 := NB180_165.out
  have hms28_1 := NB180_166.out
  have hms28_2 := NB180_173.out
  have hs29 : w27.cell? ⟨gb180, 1, none⟩ = some (.float .f64 0) := (blk_cell BK180.out 1).trans rfl
  have hfs29 := blk_frozen BK180.out 1
  have hns29_0 := NB165_180.out
  have hns29_1 := NB166_180.out
  have hns29_2 := NB173_180.out
  have hms29_0 := NB180_165.out
  have hms29_1 := NB180_166.out
  have hms29_2 := NB180_173.out
  refine skip_ (w1 := ?_) (by rfl) rfl ?_ ?_
  rotate_left
  · go_simp
    rfl
  refine hK.out _ _ ⟨((cell_far (p := ⟨gb180, _, none⟩) NB165_180.out _).trans (((cell_far (p := ⟨gb180, _, none⟩) NB165_180.out _).trans (hHeld.1)))), ((cell_far (p := ⟨gb180, _, none⟩) NB165_180.out _).trans (((cell_far (p := ⟨gb180, _, none⟩) NB165_180.out _).trans (hHeld.2.1)))), ((cell_far (p := ⟨gb180, _, none⟩) NB166_180.out _).trans (((cell_far (p := ⟨gb180, _, none⟩) NB166_180.out _).trans (hHeld.2.2.1)))), ((cell_far (p := ⟨gb180, _, none⟩) NB166_180.out _).trans (((cell_far (p := ⟨gb180, _, none⟩) NB166_180.out _).trans (hHeld.2.2.2))))⟩ (fun hHeld => ?_)
  clear hK K
  refine done_ (by kernel_rfl) ?_
  have hnb30 := NB180_165.out
  have hnc30 := NB165_180.out
  have hnb31 := NB180_166.out
  have hnc31 := NB166_180.out
  have hnb32 := NB180_173.out
  have hnc32 := NB173_180.out
  have hcz33_0 : w27.cell? ⟨gb180, 0, none⟩ = some (.float .f64 0) := (blk_cell BK180.out 0).trans rfl
  have hcz33_1 : w27.cell? ⟨gb180, 1, none⟩ = some (.float .f64 0) := (blk_cell BK180.out 1).trans rfl
  have hfz33_0 := blk_frozen BK180.out 0
  have hfz33_1 := blk_frozen BK180.out 1
  have hnb34 := NB173_165.out
  have hnc34 := NB165_173.out
  have hnb35 := NB173_166.out
  have hnc35 := NB166_173.out
  have hcz36_0 : w27.cell? ⟨gb173, 0, none⟩ = some (.float .f64 t171) := (blk_cell BK173.out 0).trans rfl
  have hcz36_1 : w27.cell? ⟨gb173, 1, none⟩ = some (.float .f64 t172) := (blk_cell BK173.out 1).trans rfl
  have hfz36_0 := blk_frozen BK173.out 0
  have hfz36_1 := blk_frozen BK173.out 1
  have hSame := PT.same hP8 (show PT t174 t175 t176 t177 t171 t172 from by rw [et174, et175, et176, et177, ← et167, ← et168, ← et169, ← et170]; exact hP5)
  try go_wp2_with (first | ((with_reducible refine gate_callee (f := 17) rfl ?_); refine goesL_ (some 19) rfl rfl Try.func17 (by kernel_rfl) rfl #[.agg #[.float .f64 t178, .float .f64 t179], .agg #[.float .f64 t171, .float .f64 t172]] rfl (by (try simp only [List.map_toArray, List.map_cons, List.map_nil]); first | done | rfl | (simp only [List.length_drop, List.length_take]; rfl)) ?_; (with_reducible refine (laws_eqPhasor.calls 5 t178 t179 t171 t172 true _ (eqPh_eq (by decide) hSame.1 hSame.2)).mono ?_); rintro e w37 ⟨rfl, hb⟩; refine ⟨_, rfl, ?_⟩; have n0_ := Aside0.mk (blk_below (g := gb165) (o := .cells #[.float .f64 a0_0, .float .f64 a0_1] 34 (0, 0)) (by (with_reducible repeat (first | refine blk_drewN ?_ _ | refine blk_drew ?_ | refine blk_alloc ?_ _)); refine blk_far ?_ NB165_180.out _; (with_reducible repeat (first | refine blk_drewN ?_ _ | refine blk_drew ?_ | refine blk_alloc ?_ _)); refine blk_far ?_ NB165_180.out _; (with_reducible repeat (first | refine blk_drewN ?_ _ | refine blk_drew ?_ | refine blk_alloc ?_ _)); exact BK165.out) hb); have n1_ := Aside0.mk (blk_below (g := gb166) (o := .cells #[.float .f64 a1_0, .float .f64 a1_1] 34 (0, 0)) (by (with_reducible repeat (first | refine blk_drewN ?_ _ | refine blk_drew ?_ | refine blk_alloc ?_ _)); refine blk_far ?_ NB166_180.out _; (with_reducible repeat (first | refine blk_drewN ?_ _ | refine blk_drew ?_ | refine blk_alloc ?_ _)); refine blk_far ?_ NB166_180.out _; (with_reducible repeat (first | refine blk_drewN ?_ _ | refine blk_drew ?_ | refine blk_alloc ?_ _)); exact BK166.out) hb); have n2_ := Aside0.mk (blk_below (g := gb173) (o := .cells #[.float .f64 t171, .float .f64 t172] 28 (0, 0)) (by (with_reducible repeat (first | refine blk_drewN ?_ _ | refine blk_drew ?_ | refine blk_alloc ?_ _)); refine blk_far ?_ NB173_180.out _; (with_reducible repeat (first | refine blk_drewN ?_ _ | refine blk_drew ?_ | refine blk_alloc ?_ _)); refine blk_far ?_ NB173_180.out _; (with_reducible repeat (first | refine blk_drewN ?_ _ | refine blk_drew ?_ | refine blk_alloc ?_ _)); exact BK173.out) hb); have n3_ := Aside0.mk (blk_below (g := gb180) (o := .cells #[.float .f64 t178, .float .f64 t179] 28 (0, 0)) (by (with_reducible repeat (first | refine blk_drewN ?_ _ | refine blk_drew ?_ | refine blk_alloc ?_ _)); refine blk_put (cs := #[.float .f64 t178, .float .f64 0]) ?_ 1 _ rfl; (with_reducible repeat (first | refine blk_drewN ?_ _ | refine blk_drew ?_ | refine blk_alloc ?_ _)); refine blk_put (cs := #[.float .f64 0, .float .f64 0]) ?_ 0 _ rfl; (with_reducible repeat (first | refine blk_drewN ?_ _ | refine blk_drew ?_ | refine blk_alloc ?_ _)); exact BK180.out) hb); have n4_ := Aside0.mk (below_step (by repeat (first | (with_reducible first | exact HB.out | apply below_alloc | apply pw_below_drewN | apply below_drew1 | refine below_set ?_ GE165.out | refine below_set ?_ GE166.out | refine below_set ?_ GE173.out | refine below_set ?_ GE180.out) | exact HB.out)) hb); clear BK165; clear BK166; clear BK173; clear BK180; clear HB; have BK165 := n0_; have BK166 := n1_; have BK173 := n2_; have BK180 := n3_; have HB := n4_; clear n0_ n1_ n2_ n3_ n4_; (try clear hb); (try clear hb2); (try clear hk); (try clear hi)))
  go_ret
  (try rw [HT_.out])
  (try simp only [HT_.out])
  exact ⟨by first | rfl | (simp [errW_none, errW_some] <;> rfl) | (simp [*, errW_none, errW_some] <;> rfl), by repeat (first | (with_reducible first | exact HB.out | apply below_alloc | apply pw_below_drewN | apply below_drew1 | refine below_set ?_ GE165.out | refine below_set ?_ GE166.out | refine below_set ?_ GE173.out | refine below_set ?_ GE180.out) | exact HB.out)⟩


end Go.Proofs.Ythjlapmjpjpgeaa.M
