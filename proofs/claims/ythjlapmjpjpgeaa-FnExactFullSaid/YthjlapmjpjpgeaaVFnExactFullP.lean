/- The pure statement of FnExactFull and what it needs. Conditions: those that each theorem states. -/
import Derived.Test.YthjlapmjpjpgeaaVFnExactFull0
import Derived.RowKit
import Derived.Test.YthjlapmjpjpgeaaFl
import Derived.Test.YthjlapmjpjpgeaaSq
import Derived.Test.YthjlapmjpjpgeaaWWords
import Derived.WalkKit
import Derived.WalkLawsBesides
namespace Go.Proofs.Ythjlapmjpjpgeaa.M
set_option linter.unusedSimpArgs false
set_option linter.unusedVariables false
open Go.RowKit Go.Proofs.YthjlapmjpjpgeaaW.PrintWords

theorem cmp_self (a : Int) : compare a a = Ordering.eq := by
  simp [compare, compareOfLessAndEq]
theorem cmp_selfN (a : Nat) : compare a a = Ordering.eq := by
  simp [compare, compareOfLessAndEq]
theorem ord_self (k : FloatKind) (x : Nat) : k.format.order x x = none ∨ k.format.order x x = some .eq := by
  unfold Ieee.Format.order
  cases k.format.read x with
  | number s m e => right; simp [Ieee.Datum.order, cmp_self]
  | infinity s => right; simp [Ieee.Datum.order, cmp_selfN]
  | nan s t => left; rfl
theorem one_read : ((FloatKind.f64.format.read 4607182418800017408).isNaN = false ∧ (FloatKind.f64.format.read 4607182418800017408).isInfinity = false) ∧ (FloatKind.f64.format.read 4607182418800017408).isZero = false := by decide +kernel
theorem inv_ok {a : Nat} (h : FloatKind.f64.format.order a a ≠ none) : (floatBits .quo .f64 4607182418800017408 a).isSome = true := by
  unfold floatBits Ieee.Format.div
  have h1 := one_read
  simp only [Option.isSome_map]
  unfold Ieee.Format.order at h
  generalize FloatKind.f64.format.read 4607182418800017408 = o at h1 ⊢
  generalize FloatKind.f64.format.read a = d at h ⊢
  cases o with
  | nan s t => exact absurd h1.1.1 (by simp [Ieee.Datum.isNaN])
  | infinity s => exact absurd h1.1.2 (by simp [Ieee.Datum.isInfinity])
  | number s m e =>
    have hm : m ≠ 0 := by
      rintro rfl
      exact absurd h1.2 (by simp [Ieee.Datum.isZero])
    cases d with
    | nan s t => exact absurd rfl h
    | infinity s => rfl
    | number t n j =>
      unfold Ieee.Datum.quotient
      simp only
      split
      · first | rfl | (rw [if_neg hm]; rfl)
      · rfl
/-- Two floats that pass for the same: both are no numbers, or their bits are the same and it is a number. -/
def Same (a b : Nat) : Prop := (FloatKind.f64.format.order a a = none ∧ FloatKind.f64.format.order b b = none) ∨ a = b
theorem sameFloat_eq {k a b : Nat} (hk : 0 < k) (h : Same a b) : laws_sameFloat.f k a b = some true := by
  obtain ⟨k, rfl⟩ : ∃ m, k = m + 1 := ⟨k - 1, by omega⟩
  unfold laws_sameFloat.f
  have nn : ∀ x y : Nat, FloatKind.f64.format.order x x = none → FloatKind.f64.format.order y y = none → (if (FloatKind.f64.format.order x x != some .eq) = true then (laws_sameFloat.j0 (k + 1) x y true) else (laws_sameFloat.j0 (k + 1) x y (FloatKind.f64.format.order y y != some .eq))) = some true := by
    intro x y h1 h2
    rw [h1, h2, if_pos (by rfl)]
    simp [laws_sameFloat.j0, h1, h2]
  rcases h with ⟨h1, h2⟩ | rfl
  · exact nn a b h1 h2
  · rcases ord_self .f64 a with h1 | h1
    · exact nn a a h1 h1
    · have hi := inv_ok (a := a) (by rw [h1]; simp)
      rw [h1, if_neg (by decide)]
      simp only [laws_sameFloat.j0, hi, if_true, beq_self_eq_true, h1]
      rw [if_neg (by decide)]
      split <;> rfl
theorem eqPh_eq {k a0 a1 b0 b1 : Nat} (hk : 0 < k) (h0 : Same a0 b0) (h1 : Same a1 b1) : laws_eqPhasor.f k a0 a1 b0 b1 = some true := by
  unfold laws_eqPhasor.f
  rw [sameFloat_eq hk h0, Option.bind_some, if_pos rfl, sameFloat_eq hk h1, Option.bind_some, if_pos rfl]


end Go.Proofs.Ythjlapmjpjpgeaa.M
namespace Go.Proofs.Ythjlapmjpjpgeaa.M
set_option linter.unusedSimpArgs false
set_option linter.unusedVariables false
open Go.RowKit Go.Proofs.YthjlapmjpjpgeaaW.PrintWords Go.Proofs.Ythjlapmjpjpgeaa.Sq

/-- The same world, or the same after a draw. -/
def Quiet (W w1 : World) : Prop := w1 = W ∨ w1 = W.drew
theorem Quiet.below {W w1 : World} (h : Quiet W w1) : Below W.heap.size W w1 := by
  rcases h with rfl | rfl
  · exact Below.refl _ _
  · exact below_drew1 (Below.refl _ _)
theorem sw64 : FloatKind.f64.format.signWeight = 9223372036854775808 := by decide +kernel
theorem bi64 : FloatKind.f64.format.binade = 4503599627370496 := by decide +kernel
theorem in64 : FloatKind.f64.format.infRung = 9218868437227405312 := by decide +kernel
theorem nan_drawn (t : Nat) : FloatKind.f64.format.order ((t % 2) * 2 ^ 63 + 0x7ff0000000000000 + 1 + (t / 2) % (2 ^ 52 - 1)) ((t % 2) * 2 ^ 63 + 0x7ff0000000000000 + 1 + (t / 2) % (2 ^ 52 - 1)) = none := by
  have h : ∀ n, 9218868437227405312 < n % 9223372036854775808 → FloatKind.f64.format.order n n = none := by
    intro n hn
    unfold Ieee.Format.order Ieee.Format.read
    rw [sw64, bi64, in64]
    simp only
    rw [if_neg (by omega), if_neg (by omega), if_neg (by omega)]
    rfl
  apply h
  have h1 : (t / 2) % (2 ^ 52 - 1) < 2 ^ 52 - 1 := Nat.mod_lt _ (by decide)
  have h2 : t % 2 < 2 := Nat.mod_lt _ (by decide)
  generalize (t / 2) % (2 ^ 52 - 1) = q at h1 ⊢
  generalize t % 2 = s at h2 ⊢
  simp only [Nat.reducePow, Nat.reduceSub] at h1 ⊢
  omega
theorem fl_event {P : Program} {ops : Array Oper} {rest : List Oper} {o : Oper} {a : Act} {Q : Exit → Act → World → Prop} {W : World} {k : FloatKind} {R : Nat → Prop} (hgd : o.guard = none) {N : Tmp} (_hd : o.dst = some N)
    (hrun : ∃ r w1, (execOp a.eval o).run P W = .ok (.value (.float k r)) w1 ∧ R r ∧ Quiet W w1)
    (h : ∀ r w1, R r → Below W.heap.size W w1 → wpList P ops Q rest (a.put o.dst (.float k r)) w1) : wpList P ops Q (o :: rest) a W := by
  obtain ⟨r, w1, hr, hR, hq⟩ := hrun
  exact Kd.event_run hgd hr (h r w1 hR (Quiet.below hq))

end Go.Proofs.Ythjlapmjpjpgeaa.M
namespace Go.Proofs.Ythjlapmjpjpgeaa.M
set_option linter.unusedSimpArgs false
set_option linter.unusedVariables false
open Go.RowKit Go.Proofs.YthjlapmjpjpgeaaW.PrintWords Go.Proofs.Ythjlapmjpjpgeaa.Sq

theorem sw32 : FloatKind.f32.format.signWeight = 2147483648 := by decide +kernel
theorem bi32 : FloatKind.f32.format.binade = 8388608 := by decide +kernel
theorem in32 : FloatKind.f32.format.infRung = 2139095040 := by decide +kernel
theorem lp32 : FloatKind.f32.format.leastPlace = -149 := by decide +kernel
theorem lp64 : FloatKind.f64.format.leastPlace = -1074 := by decide +kernel
theorem fb64 : FloatKind.f64.format.fractionBits = 52 := rfl
/-- What a 32-bit word that is a number stands for. -/
theorem read32 {x : Nat} {s : Bool} {m : Nat} {e : Int} (h : FloatKind.f32.decode x = .number s m e) : m < 16777216 ∧ -149 ≤ e ∧ e ≤ 104 := by
  unfold FloatKind.decode Ieee.Format.read at h
  rw [sw32, bi32, in32, lp32] at h
  simp only at h
  split at h
  · injection h with _ h1 h2
    subst h1 h2
    omega
  · split at h
    · injection h with _ h1 h2
      subst h1 h2
      omega
    · split at h <;> simp at h
theorem word_finite (s : Bool) {rung : Nat} (h : rung < 9218868437227405312) : (FloatKind.f64.decode (FloatKind.f64.format.word s rung)).isInfinity = false := by
  have e : FloatKind.f64.format.word s rung % 9223372036854775808 = rung := by
    unfold Ieee.Format.word
    rw [sw64]
    split <;> omega
  unfold FloatKind.decode Ieee.Format.read
  rw [sw64, bi64, in64]
  simp only [e]
  split
  · rfl
  · first | rfl | (rw [if_pos h]; rfl)
theorem cut_zero (s : Bool) (n : Nat) : Ieee.Toward.even.cut s n 0 = n := by
  unfold Ieee.Toward.cut
  have h1 : n % 1 = 0 := Nat.mod_one n
  simp [h1]
theorem wide_ok {x : Nat} {s : Bool} {m : Nat} {e : Int} (h : FloatKind.f32.decode x = .number s m e) : (FloatKind.f64.decode (FloatKind.f64.encode (.number s m e))).isInfinity = false := by
  obtain ⟨h1, h2, h3⟩ := read32 h
  unfold FloatKind.encode Ieee.Format.write Ieee.Format.nearest
  rw [lp64, fb64, bi64, in64]
  simp only
  by_cases hm : m = 0
  · rw [if_pos hm]
    exact word_finite s (by omega)
  · rw [if_neg hm]
    have hl : m.log2 < 24 := (Nat.log2_lt hm).2 (by omega)
    have hlt : m < 2 ^ (m.log2 + 1) := Nat.lt_log2_self
    generalize m.log2 = l at hl hlt ⊢
    have e1 : max (e + (l : Int) - ((52 : Nat) : Int)) (-1074) = e + (l : Int) - 52 := by omega
    rw [e1]
    have e2 : (e + (l : Int) - 52 - e).toNat = 0 := by omega
    have e3 : (e - (e + (l : Int) - 52)).toNat = 52 - l := by omega
    rw [e2, e3, cut_zero]
    have h4 : m <<< (52 - l) < 9007199254740992 := by
      rw [Nat.shiftLeft_eq]
      have h5 : 2 ^ (l + 1) * 2 ^ (52 - l) = 9007199254740992 := by
        rw [← Nat.pow_add, show l + 1 + (52 - l) = 53 from by omega]
      rw [← h5]
      exact Nat.mul_lt_mul_of_pos_right hlt (Nat.two_pow_pos _)
    have h6 : (e + (l : Int) - 52 - -1074).toNat ≤ 1149 := by omega
    refine word_finite s (Nat.lt_of_le_of_lt (Nat.min_le_left _ _) ?_)
    generalize (e + (l : Int) - 52 - -1074).toNat = q at h6 ⊢
    omega
def CV (x r : Nat) : Prop := floatToFloatBits .f32 x .f64 = some r ∨ (floatToFloatBits .f32 x .f64 = none ∧ FloatKind.f64.format.order r r = none)
theorem CV.same {x r q : Nat} (h : CV x r) (g : CV x q) : Same r q := by
  rcases h with h | ⟨h, h1⟩ <;> rcases g with g | ⟨g, g1⟩
  · exact Or.inr (Option.some.inj (h.symm.trans g))
  · rw [g] at h
    cases h
  · rw [h] at g
    cases g
  · exact Or.inl ⟨h1, g1⟩
theorem cv_run {P : Program} {src dst : TypeId} (hs : (P.underlying src).isSome = true) (hd : P.underlying dst = some (.float .f64)) (x : Nat) (W : World) :
    ∃ r w1, (convert src dst (.float .f32 x)).run P W = .ok (.float .f64 r) w1 ∧ CV x r ∧ Quiet W w1 := by
  cases hf : floatToFloatBits .f32 x .f64 with
  | some r => exact ⟨r, W, run_convert_float_float W src dst .f32 .f64 x r hs hd hf, Or.inl hf, Or.inl rfl⟩
  | none =>
    refine ⟨_, W.drew, ?_, Or.inr ⟨hf, nan_drawn (W.tape W.drawn (.nanConv .f64 x))⟩, Or.inr rfl⟩
    obtain ⟨u, hs'⟩ := Option.isSome_iff_exists.1 hs
    unfold floatToFloatBits at hf
    rw [if_neg (by decide)] at hf
    split at hf
    · rename_i he
      cases u <;> simp [convert, run_underlying hs', run_underlying hd, Conv.floatToFloat, he, Question.forced, Question.cut]
    · cases hf
    · rename_i s m e he
      rw [wide_ok he] at hf
      simp at hf


end Go.Proofs.Ythjlapmjpjpgeaa.M
namespace Go.Proofs.Ythjlapmjpjpgeaa.M
set_option linter.unusedSimpArgs false
set_option linter.unusedVariables false
open Go.RowKit Go.Proofs.YthjlapmjpjpgeaaW.PrintWords Go.Proofs.YthjlapmjpjpgeaaW.PrintLast Go.Proofs.YthjlapmjpjpgeaaW.PrintMore Go.Proofs.Ythjlapmjpjpgeaa.Sq
attribute [local go_sem] run_store_float

set_option maxHeartbeats 8000000 in
set_option maxRecDepth 100000 in
theorem spec_Full.callsN (x y : Nat) (w : World) :
    Calls Try.prog 14 #[.agg #[.float .f32 x, .float .f32 y]] w fun e w' => ∃ p q, CV x p ∧ CV y q ∧ e = .returned (.agg #[.float .f64 p, .float .f64 q]) ∧ Below w.heap.size w w' := by
  have hu23 := Try.underlying23
  have hu26 := Try.underlying26
  have hu28 := Try.underlying28
  have hu30 := Try.underlying30
  have HB := Aside0.mk (Below.refl w.heap.size w)
  go_enter Try.func14, Try.ntmps14
  go_wp2_with (first | ((with_reducible refine gate_dst (N := 1) rfl ?_); refine box_event ?hg (N := 1) ?hd (cs := #[.float .f32 x, .float .f32 y]) (t := 30) ?hr ?_; (case hd => rfl); (case hg => rfl); (case hr => first | (go_simp; done) | (go_simp; rfl)); intro gb1 hg w1 hbox hb; have GE1 := Aside0.mk ((by rw [hg]; exact below_size HB.out) : w.heap.size ≤ gb1); replace HB := Aside0.mk (below_step HB.out hb); have BK1 := Aside0.mk hbox; obtain ⟨z2_1_0, z2_1_1, y2_1_0, y2_1_1⟩ := cs2_ BK1.out; clear hb hbox hg) | ((with_reducible refine gate_dst (N := 2) rfl ?_); refine box_event ?hg (N := 2) ?hd (cs := #[.float .f64 0, .float .f64 0]) (t := 28) ?hr ?_; (case hd => rfl); (case hg => rfl); (case hr => first | (go_simp; done) | (go_simp; rfl)); intro gb2 hg w3 hbox hb; have GE2 := Aside0.mk ((by rw [hg]; exact below_size HB.out) : w.heap.size ≤ gb2); have NB1_2 := Aside0.mk ((by rw [hg]; exact Nat.ne_of_lt (blk_lt BK1.out)) : gb1 ≠ gb2); have NB2_1 := Aside0.mk ((by rw [hg]; exact Nat.ne_of_gt (blk_lt BK1.out)) : gb2 ≠ gb1); replace BK1 := Aside0.mk (blk_below BK1.out hb); replace HB := Aside0.mk (below_step HB.out hb); have BK2 := Aside0.mk hbox; obtain ⟨z4_1_0, z4_1_1, y4_1_0, y4_1_1⟩ := cs2_ BK1.out; obtain ⟨z4_2_0, z4_2_1, y4_2_0, y4_2_1⟩ := cs2_ BK2.out; clear hb hbox hg) | ((with_reducible refine gate_dst (N := 5) rfl ?_); refine fl_event (k := .f64) (R := CV x) ?hg (N := 5) ?hd ?hr ?_; (case hd => rfl); (case hg => rfl); (case hr => obtain ⟨r_, w_, hc_, hR_, hq_⟩ := cv_run (P := Try.prog) (src := 23) (dst := 26) (by rw [Try.underlying23]; rfl) Try.underlying26 x _; exact ⟨r_, w_, by first | (go_simp; done) | (go_simp; rfl), hR_, hq_⟩); intro p w5 hp hb; replace BK1 := Aside0.mk (blk_below BK1.out hb); replace BK2 := Aside0.mk (blk_below BK2.out hb); replace HB := Aside0.mk (below_step HB.out hb); obtain ⟨z6_1_0, z6_1_1, y6_1_0, y6_1_1⟩ := cs2_ BK1.out; obtain ⟨z6_2_0, z6_2_1, y6_2_0, y6_2_1⟩ := cs2_ BK2.out; clear hb) | ((with_reducible refine gate_dst (N := 8) rfl ?_); refine fl_event (k := .f64) (R := CV y) ?hg (N := 8) ?hd ?hr ?_; (case hd => rfl); (case hg => rfl); (case hr => obtain ⟨r_, w_, hc_, hR_, hq_⟩ := cv_run (P := Try.prog) (src := 23) (dst := 26) (by rw [Try.underlying23]; rfl) Try.underlying26 y _; exact ⟨r_, w_, by first | (go_simp; done) | (go_simp; rfl), hR_, hq_⟩); intro q w7 hq hb; replace BK1 := Aside0.mk (blk_below BK1.out hb); replace BK2 := Aside0.mk (blk_below BK2.out hb); replace HB := Aside0.mk (below_step HB.out hb); obtain ⟨z8_1_0, z8_1_1, y8_1_0, y8_1_1⟩ := cs2_ BK1.out; obtain ⟨z8_2_0, z8_2_1, y8_2_0, y8_2_1⟩ := cs2_ BK2.out; clear hb))
  refine bodyPost_ret (results_cell_row rfl _ _ gb2 28 #[.float .f64 p, .float .f64 q] (0, 0) _ rfl (by (with_reducible repeat (first | refine blk_drewN ?_ _ | refine blk_drew ?_ | refine blk_alloc ?_ _)); refine blk_put (cs := #[.float .f64 p, .float .f64 0]) ?_ 1 _ rfl; (with_reducible repeat (first | refine blk_drewN ?_ _ | refine blk_drew ?_ | refine blk_alloc ?_ _)); refine blk_put (cs := #[.float .f64 0, .float .f64 0]) ?_ 0 _ rfl; (with_reducible repeat (first | refine blk_drewN ?_ _ | refine blk_drew ?_ | refine blk_alloc ?_ _)); exact BK2.out) Try.underlying28 rfl (by kernel_rfl)) rfl ?_
  exact ⟨p, q, hp, hq, rfl, (by repeat (first | (with_reducible first | exact HB.out | apply below_alloc | apply pw_below_drewN | apply below_drew1 | refine below_set ?_ GE1.out | refine below_set ?_ GE2.out) | exact HB.out))⟩
set_option maxHeartbeats 8000000 in
set_option maxRecDepth 100000 in
theorem impl_Full.callsN (x y : Nat) (w : World) :
    Calls Try.prog 16 #[.agg #[.float .f32 x, .float .f32 y]] w fun e w' => ∃ p q, CV x p ∧ CV y q ∧ e = .returned (.agg #[.float .f64 p, .float .f64 q]) ∧ Below w.heap.size w w' := by
  have hu23 := Try.underlying23
  have hu26 := Try.underlying26
  have hu28 := Try.underlying28
  have hu30 := Try.underlying30
  have HB := Aside0.mk (Below.refl w.heap.size w)
  go_enter Try.func16, Try.ntmps16
  go_wp2_with (first | ((with_reducible refine gate_dst (N := 1) rfl ?_); refine box_event ?hg (N := 1) ?hd (cs := #[.float .f32 x, .float .f32 y]) (t := 30) ?hr ?_; (case hd => rfl); (case hg => rfl); (case hr => first | (go_simp; done) | (go_simp; rfl)); intro gb1 hg w1 hbox hb; have GE1 := Aside0.mk ((by rw [hg]; exact below_size HB.out) : w.heap.size ≤ gb1); replace HB := Aside0.mk (below_step HB.out hb); have BK1 := Aside0.mk hbox; obtain ⟨z2_1_0, z2_1_1, y2_1_0, y2_1_1⟩ := cs2_ BK1.out; clear hb hbox hg) | ((with_reducible refine gate_dst (N := 2) rfl ?_); refine box_event ?hg (N := 2) ?hd (cs := #[.float .f64 0, .float .f64 0]) (t := 28) ?hr ?_; (case hd => rfl); (case hg => rfl); (case hr => first | (go_simp; done) | (go_simp; rfl)); intro gb2 hg w3 hbox hb; have GE2 := Aside0.mk ((by rw [hg]; exact below_size HB.out) : w.heap.size ≤ gb2); have NB1_2 := Aside0.mk ((by rw [hg]; exact Nat.ne_of_lt (blk_lt BK1.out)) : gb1 ≠ gb2); have NB2_1 := Aside0.mk ((by rw [hg]; exact Nat.ne_of_gt (blk_lt BK1.out)) : gb2 ≠ gb1); replace BK1 := Aside0.mk (blk_below BK1.out hb); replace HB := Aside0.mk (below_step HB.out hb); have BK2 := Aside0.mk hbox; obtain ⟨z4_1_0, z4_1_1, y4_1_0, y4_1_1⟩ := cs2_ BK1.out; obtain ⟨z4_2_0, z4_2_1, y4_2_0, y4_2_1⟩ := cs2_ BK2.out; clear hb hbox hg) | ((with_reducible refine gate_dst (N := 5) rfl ?_); refine fl_event (k := .f64) (R := CV x) ?hg (N := 5) ?hd ?hr ?_; (case hd => rfl); (case hg => rfl); (case hr => obtain ⟨r_, w_, hc_, hR_, hq_⟩ := cv_run (P := Try.prog) (src := 23) (dst := 26) (by rw [Try.underlying23]; rfl) Try.underlying26 x _; exact ⟨r_, w_, by first | (go_simp; done) | (go_simp; rfl), hR_, hq_⟩); intro p w5 hp hb; replace BK1 := Aside0.mk (blk_below BK1.out hb); replace BK2 := Aside0.mk (blk_below BK2.out hb); replace HB := Aside0.mk (below_step HB.out hb); obtain ⟨z6_1_0, z6_1_1, y6_1_0, y6_1_1⟩ := cs2_ BK1.out; obtain ⟨z6_2_0, z6_2_1, y6_2_0, y6_2_1⟩ := cs2_ BK2.out; clear hb) | ((with_reducible refine gate_dst (N := 8) rfl ?_); refine fl_event (k := .f64) (R := CV y) ?hg (N := 8) ?hd ?hr ?_; (case hd => rfl); (case hg => rfl); (case hr => obtain ⟨r_, w_, hc_, hR_, hq_⟩ := cv_run (P := Try.prog) (src := 23) (dst := 26) (by rw [Try.underlying23]; rfl) Try.underlying26 y _; exact ⟨r_, w_, by first | (go_simp; done) | (go_simp; rfl), hR_, hq_⟩); intro q w7 hq hb; replace BK1 := Aside0.mk (blk_below BK1.out hb); replace BK2 := Aside0.mk (blk_below BK2.out hb); replace HB := Aside0.mk (below_step HB.out hb); obtain ⟨z8_1_0, z8_1_1, y8_1_0, y8_1_1⟩ := cs2_ BK1.out; obtain ⟨z8_2_0, z8_2_1, y8_2_0, y8_2_1⟩ := cs2_ BK2.out; clear hb))
  refine bodyPost_ret (results_cell_row rfl _ _ gb2 28 #[.float .f64 p, .float .f64 q] (0, 0) _ rfl (by (with_reducible repeat (first | refine blk_drewN ?_ _ | refine blk_drew ?_ | refine blk_alloc ?_ _)); refine blk_put (cs := #[.float .f64 p, .float .f64 0]) ?_ 1 _ rfl; (with_reducible repeat (first | refine blk_drewN ?_ _ | refine blk_drew ?_ | refine blk_alloc ?_ _)); refine blk_put (cs := #[.float .f64 0, .float .f64 0]) ?_ 0 _ rfl; (with_reducible repeat (first | refine blk_drewN ?_ _ | refine blk_drew ?_ | refine blk_alloc ?_ _)); exact BK2.out) Try.underlying28 rfl (by kernel_rfl)) rfl ?_
  exact ⟨p, q, hp, hq, rfl, (by repeat (first | (with_reducible first | exact HB.out | apply below_alloc | apply pw_below_drewN | apply below_drew1 | refine below_set ?_ GE1.out | refine below_set ?_ GE2.out) | exact HB.out))⟩


end Go.Proofs.Ythjlapmjpjpgeaa.M
namespace Go.Proofs.Ythjlapmjpjpgeaa.M
set_option linter.unusedSimpArgs false
set_option linter.unusedVariables false
open Go.RowKit Go.Proofs.YthjlapmjpjpgeaaW.PrintWords Go.Proofs.YthjlapmjpjpgeaaW.PrintLast Go.Proofs.YthjlapmjpjpgeaaW.PrintMore Go.Proofs.Ythjlapmjpjpgeaa.Sq
attribute [local go_sem] run_store_float

set_option maxHeartbeats 8000000 in
set_option maxRecDepth 100000 in
theorem laws_FnExactFull.callsN (x y : Nat) (w : World) :
    Calls Try.prog 4 #[.agg #[.float .f32 x, .float .f32 y]] w fun e w' => e = .returned (.bool true) ∧ Below w.heap.size w w' := by
  have hu25 := Try.underlying25
  have hu28 := Try.underlying28
  have hu30 := Try.underlying30
  have HB := Aside0.mk (Below.refl w.heap.size w)
  go_enter Try.func4, Try.ntmps4
  go_wp2_with (first | ((with_reducible refine gate_dst (N := 1) rfl ?_); refine box_event ?hg (N := 1) ?hd (cs := #[.float .f32 x, .float .f32 y]) (t := 25) ?hr ?_; (case hd => rfl); (case hg => rfl); (case hr => first | (go_simp; done) | (go_simp; rfl)); intro gb1 hg w1 hbox hb; have GE1 := Aside0.mk ((by rw [hg]; exact below_size HB.out) : w.heap.size ≤ gb1); replace HB := Aside0.mk (below_step HB.out hb); have BK1 := Aside0.mk hbox; obtain ⟨z2_1_0, z2_1_1, y2_1_0, y2_1_1⟩ := cs2_ BK1.out; clear hb hbox hg) | ((with_reducible refine gate_callee (f := 15) rfl ?_); refine goesL_ (some 6) rfl rfl Try.func15 (by kernel_rfl) rfl #[.agg #[.float .f32 x, .float .f32 y]] rfl (by (try simp only [List.map_toArray, List.map_cons, List.map_nil]); first | done | rfl | (simp only [List.length_drop, List.length_take]; rfl)) ?_; (with_reducible refine (laws_toSlim.calls x y x y _ rfl).mono ?_); rintro e w3 ⟨rfl, hb⟩; refine ⟨_, rfl, ?_⟩; have BE1 := Aside0.mk (blk_below BK1.out hb); replace HB := Aside0.mk (below_step HB.out hb); replace BK1 := BE1; clear BE1; obtain ⟨z4_1_0, z4_1_1, y4_1_0, y4_1_1⟩ := cs2_ BK1.out; clear hb) | ((with_reducible refine gate_callee (f := 14) rfl ?_); refine goesL_ (some 7) rfl rfl Try.func14 (by kernel_rfl) rfl #[.agg #[.float .f32 x, .float .f32 y]] rfl (by (try simp only [List.map_toArray, List.map_cons, List.map_nil]); first | done | rfl | (simp only [List.length_drop, List.length_take]; rfl)) ?_; (with_reducible refine (spec_Full.callsN x y _).mono ?_); rintro e w5 ⟨p1, q1, hp1, hq1, rfl, hb⟩; refine ⟨_, rfl, ?_⟩; have BE1 := Aside0.mk (blk_below BK1.out hb); replace HB := Aside0.mk (below_step HB.out hb); replace BK1 := BE1; clear BE1; obtain ⟨z6_1_0, z6_1_1, y6_1_0, y6_1_1⟩ := cs2_ BK1.out; clear hb) | ((with_reducible refine gate_dst (N := 3) rfl ?_); refine box_event ?hg (N := 3) ?hd (cs := #[.float .f64 0, .float .f64 0]) (t := 28) ?hr ?_; (case hd => rfl); (case hg => rfl); (case hr => first | (go_simp; done) | (go_simp; rfl)); intro gb3 hg w7 hbox hb; have GE3 := Aside0.mk ((by rw [hg]; exact below_size HB.out) : w.heap.size ≤ gb3); have NB1_3 := Aside0.mk ((by rw [hg]; exact Nat.ne_of_lt (blk_lt BK1.out)) : gb1 ≠ gb3); have NB3_1 := Aside0.mk ((by rw [hg]; exact Nat.ne_of_gt (blk_lt BK1.out)) : gb3 ≠ gb1); have BE1 := Aside0.mk (blk_below BK1.out hb); replace HB := Aside0.mk (below_step HB.out hb); replace BK1 := BE1; clear BE1; have BK3 := Aside0.mk hbox; obtain ⟨z8_1_0, z8_1_1, y8_1_0, y8_1_1⟩ := cs2_ BK1.out; obtain ⟨z8_3_0, z8_3_1, y8_3_0, y8_3_1⟩ := cs2_ BK3.out; have x8_1_3 := NB1_3.out; have x8_3_1 := NB3_1.out; clear hb hbox hg) | ((with_reducible refine gate_callee (f := 15) rfl ?_); refine goesL_ (some 9) rfl rfl Try.func15 (by kernel_rfl) rfl #[.agg #[.float .f32 x, .float .f32 y]] rfl (by (try simp only [List.map_toArray, List.map_cons, List.map_nil]); first | done | rfl | (simp only [List.length_drop, List.length_take]; rfl)) ?_; (with_reducible refine (laws_toSlim.calls x y x y _ rfl).mono ?_); rintro e w9 ⟨rfl, hb⟩; refine ⟨_, rfl, ?_⟩; have BE1 := Aside0.mk (bF_ BK1.out hb (by (repeat (first | (with_reducible first | refine hN_ ?_ _ | refine hD_ ?_ | refine hA_ ?_ _ BK1.out) | refine hF_ ?_ NB1_3.out _)); rfl)); have BE3 := Aside0.mk (blk_below (g := gb3) (o := .cells #[.float .f64 p1, .float .f64 q1] 28 (0, 0)) (by apply bE_; (case h => (repeat (first | (with_reducible first | refine blk_drewN ?_ _ | refine blk_drew ?_ | refine blk_alloc ?_ _ | apply blk_set))); exact BK3.out); (case e => rfl)) hb); replace HB := Aside0.mk (below_step (by repeat (first | (with_reducible first | exact HB.out | apply below_alloc | apply pw_below_drewN | apply below_drew1 | refine below_set ?_ GE1.out | refine below_set ?_ GE3.out) | exact HB.out)) hb); replace BK1 := BE1; replace BK3 := BE3; clear BE1 BE3; obtain ⟨z10_1_0, z10_1_1, y10_1_0, y10_1_1⟩ := cs2_ BK1.out; obtain ⟨z10_3_0, z10_3_1, y10_3_0, y10_3_1⟩ := cs2_ BK3.out; have x10_1_3 := NB1_3.out; have x10_3_1 := NB3_1.out; clear hb) | ((with_reducible refine gate_callee (f := 16) rfl ?_); refine goesL_ (some 10) rfl rfl Try.func16 (by kernel_rfl) rfl #[.agg #[.float .f32 x, .float .f32 y]] rfl (by (try simp only [List.map_toArray, List.map_cons, List.map_nil]); first | done | rfl | (simp only [List.length_drop, List.length_take]; rfl)) ?_; (with_reducible refine (impl_Full.callsN x y _).mono ?_); rintro e w11 ⟨p2, q2, hp2, hq2, rfl, hb⟩; refine ⟨_, rfl, ?_⟩; have BE1 := Aside0.mk (blk_below BK1.out hb); have BE3 := Aside0.mk (blk_below BK3.out hb); replace HB := Aside0.mk (below_step HB.out hb); replace BK1 := BE1; replace BK3 := BE3; clear BE1 BE3; obtain ⟨z12_1_0, z12_1_1, y12_1_0, y12_1_1⟩ := cs2_ BK1.out; obtain ⟨z12_3_0, z12_3_1, y12_3_0, y12_3_1⟩ := cs2_ BK3.out; have x12_1_3 := NB1_3.out; have x12_3_1 := NB3_1.out; clear hb) | ((with_reducible refine gate_dst (N := 4) rfl ?_); refine box_event ?hg (N := 4) ?hd (cs := #[.float .f64 0, .float .f64 0]) (t := 28) ?hr ?_; (case hd => rfl); (case hg => rfl); (case hr => first | (go_simp; done) | (go_simp; rfl)); intro gb4 hg w13 hbox hb; have GE4 := Aside0.mk ((by rw [hg]; exact below_size HB.out) : w.heap.size ≤ gb4); have NB1_4 := Aside0.mk ((by rw [hg]; exact Nat.ne_of_lt (blk_lt BK1.out)) : gb1 ≠ gb4); have NB4_1 := Aside0.mk ((by rw [hg]; exact Nat.ne_of_gt (blk_lt BK1.out)) : gb4 ≠ gb1); have NB3_4 := Aside0.mk ((by rw [hg]; exact Nat.ne_of_lt (blk_lt BK3.out)) : gb3 ≠ gb4); have NB4_3 := Aside0.mk ((by rw [hg]; exact Nat.ne_of_gt (blk_lt BK3.out)) : gb4 ≠ gb3); have BE1 := Aside0.mk (blk_below BK1.out hb); have BE3 := Aside0.mk (blk_below BK3.out hb); replace HB := Aside0.mk (below_step HB.out hb); replace BK1 := BE1; replace BK3 := BE3; clear BE1 BE3; have BK4 := Aside0.mk hbox; obtain ⟨z14_1_0, z14_1_1, y14_1_0, y14_1_1⟩ := cs2_ BK1.out; obtain ⟨z14_3_0, z14_3_1, y14_3_0, y14_3_1⟩ := cs2_ BK3.out; obtain ⟨z14_4_0, z14_4_1, y14_4_0, y14_4_1⟩ := cs2_ BK4.out; have x14_1_3 := NB1_3.out; have x14_1_4 := NB1_4.out; have x14_3_1 := NB3_1.out; have x14_3_4 := NB3_4.out; have x14_4_1 := NB4_1.out; have x14_4_3 := NB4_3.out; clear hb hbox hg) | ((with_reducible refine gate_callee (f := 17) rfl ?_); refine goesL_ (some 13) rfl rfl Try.func17 (by kernel_rfl) rfl #[.agg #[.float .f64 p2, .float .f64 q2], .agg #[.float .f64 p1, .float .f64 q1]] rfl (by (try simp only [List.map_toArray, List.map_cons, List.map_nil]); first | done | rfl | (simp only [List.length_drop, List.length_take]; rfl)) ?_; (with_reducible refine (laws_eqPhasor.calls 5 p2 q2 p1 q1 true _ (eqPh_eq (by decide) (CV.same hp2 hp1) (CV.same hq2 hq1))).mono ?_); rintro e w15 ⟨rfl, hb⟩; refine ⟨_, rfl, ?_⟩; have BE1 := Aside0.mk (bF_ BK1.out hb (by (repeat (first | (with_reducible first | refine hN_ ?_ _ | refine hD_ ?_ | refine hA_ ?_ _ BK1.out) | refine hF_ ?_ NB1_4.out _)); rfl)); have BE3 := Aside0.mk (bF_ BK3.out hb (by (repeat (first | (with_reducible first | refine hN_ ?_ _ | refine hD_ ?_ | refine hA_ ?_ _ BK3.out) | refine hF_ ?_ NB3_4.out _)); rfl)); have BE4 := Aside0.mk (blk_below (g := gb4) (o := .cells #[.float .f64 p2, .float .f64 q2] 28 (0, 0)) (by apply bE_; (case h => (repeat (first | (with_reducible first | refine blk_drewN ?_ _ | refine blk_drew ?_ | refine blk_alloc ?_ _ | apply blk_set))); exact BK4.out); (case e => rfl)) hb); replace HB := Aside0.mk (below_step (by repeat (first | (with_reducible first | exact HB.out | apply below_alloc | apply pw_below_drewN | apply below_drew1 | refine below_set ?_ GE1.out | refine below_set ?_ GE3.out | refine below_set ?_ GE4.out) | exact HB.out)) hb); replace BK1 := BE1; replace BK3 := BE3; replace BK4 := BE4; clear BE1 BE3 BE4; obtain ⟨z16_1_0, z16_1_1, y16_1_0, y16_1_1⟩ := cs2_ BK1.out; obtain ⟨z16_3_0, z16_3_1, y16_3_0, y16_3_1⟩ := cs2_ BK3.out; obtain ⟨z16_4_0, z16_4_1, y16_4_0, y16_4_1⟩ := cs2_ BK4.out; have x16_1_3 := NB1_3.out; have x16_1_4 := NB1_4.out; have x16_3_1 := NB3_1.out; have x16_3_4 := NB3_4.out; have x16_4_1 := NB4_1.out; have x16_4_3 := NB4_3.out; clear hb))
  go_ret
  exact ⟨rfl, (by repeat (first | (with_reducible first | exact HB.out | apply below_alloc | apply pw_below_drewN | apply below_drew1 | refine below_set ?_ GE1.out | refine below_set ?_ GE3.out | refine below_set ?_ GE4.out) | exact HB.out))⟩


end Go.Proofs.Ythjlapmjpjpgeaa.M
namespace Go.Proofs.Ythjlapmjpjpgeaa.M
set_option linter.unusedVariables false
open Go.RowKit Go.Proofs.YthjlapmjpjpgeaaW.PrintWords Go.ChangeShapes Go.WideShapes

structure S25 where
  f0 : Nat
  f1 : Nat
def k25 : Kd S25 := Kd.iso (Kd.pair (Kd.float .f32) (Kd.float .f32)) (fun x : S25 => (x.f0, x.f1))
theorem k25_open {w : World} {x : S25} {cs : List Value} (h : k25.K w x cs) : cs = [.float .f32 x.f0, .float .f32 x.f1] := by
  obtain ⟨_, _, rfl, rfl, rfl⟩ := h
  exact rfl
def wf25 (x : S25) : Prop := ((Lit.float .f32 x.f0).wf = true) ∧ ((Lit.float .f32 x.f1).wf = true)
set_option maxRecDepth 100000 in
theorem opn_s25 : Go.Proofs.Ythjlapmjpjpgeaa.Opn.Opn Try.prog 25 k25 wf25 := by
  intro H enc w fuel cs x h
  obtain ⟨xs, n, _, _, hl, hlen, hf⟩ := DataW.trod_struct Try.underlying25 h
  have hT : Try.prog.cellsOf 25 = 2 := by kernel_rfl
  rw [hT] at hl
  have e0 : Try.prog.cellsOf 23 = 1 := by kernel_rfl
  have q0 : DataW.trod enc Try.prog w 0 (fun _ => true) true n 23 ((cs.drop 0).take (Try.prog.cellsOf 23)) = xs[0]? := hf 0 _ rfl
  rw [e0, List.getElem?_eq_getElem (by rw [hlen]; show (0 : Nat) < 2; decide)] at q0
  obtain ⟨a0, k0_, p0⟩ := (opn_float Try.underlying23) _ _ _ _ _ _ q0
  have g0 : Kd.K (Kd.float .f32) w a0 ((cs.drop 0).take 1) := k0_
  have e1 : Try.prog.cellsOf 23 = 1 := by kernel_rfl
  have q1 : DataW.trod enc Try.prog w 0 (fun _ => true) true n 23 ((cs.drop 1).take (Try.prog.cellsOf 23)) = xs[1]? := hf 1 _ rfl
  rw [e1, List.getElem?_eq_getElem (by rw [hlen]; show (1 : Nat) < 2; decide)] at q1
  obtain ⟨a1, k1_, p1⟩ := (opn_float Try.underlying23) _ _ _ _ _ _ q1
  have g1 : Kd.K (Kd.float .f32) w a1 ((cs.drop 1).take 1) := k1_
  exact ⟨⟨a0, a1⟩, (show Kd.K k25 w _ (cs.drop 0) from Go.Proofs.Ythjlapmjpjpgeaa.Opn.pair_of 1 g0 (by rw [List.drop_drop]; exact Go.Proofs.Ythjlapmjpjpgeaa.Opn.last_of 1 (by simp only [List.length_drop]; omega) g1)), p0, p1⟩


end Go.Proofs.Ythjlapmjpjpgeaa.M
