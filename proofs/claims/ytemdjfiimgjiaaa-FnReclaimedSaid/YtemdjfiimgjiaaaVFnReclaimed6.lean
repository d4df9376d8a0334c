/- What the Go functions that the law FnReclaimed reaches compute, as plain Lean functions, and that their calls come to just that. Conditions: those that each theorem states. Written by the session's program. -/
import Derived.Test.YtemdjfiimgjiaaaVFnReclaimedB
import Derived.Test.YtemdjfiimgjiaaaVFnReclaimedPk
import Derived.Test.YtemdjfiimgjiaaaVFnReclaimed5
namespace Go.Proofs.Ytemdjfiimgjiaaa.R
open Go.Proofs.Ytemdjfiimgjiaaa.Sq
open Go.RowKit Go.Proofs.YtemdjfiimgjiaaaW.PrintWords Go.Proofs.YtemdjfiimgjiaaaW.PrintLast Go.Proofs.YtemdjfiimgjiaaaW.PrintMore
attribute [local go_sem] max2_int min2_int max_two min_two max_three min_three max_four min_four   -- for this text's walks alone
set_option linter.unusedVariables false
set_option linter.unusedSimpArgs false

mutual
def impl_ArenaOk.l0 : Nat → Int → List (S77) → Int → Int → List (S77) → List Int → Option (Bool)
 | 0, _, _, _, _, _, _ => none
 | k + 1, x3, x14, x15, x16, x497000, x497001 => if x16 < x15 then (if 0 ≤ x16 then (if x16 < (x14.length : Int) then ((impl_in.f ((rd_T77 x14 x16).f0) 0 5).bind fun t500 => (if t500 = true then (if ((rd_T77 x14 x16).f1 = true) then ((impl_areValues.f k ([(rd_T77 x14 x16).f2.f0, (rd_T77 x14 x16).f2.f1, (rd_T77 x14 x16).f2.f2])).bind fun t505 => (impl_ArenaOk.j1 k x3 x14 x15 x16 (!t505) x497000 x497001 ((rd_T77 x14 x16).f0) ((rd_T77 x14 x16).f1) ((rd_T77 x14 x16).f2.f0) ((rd_T77 x14 x16).f2.f1) ((rd_T77 x14 x16).f2.f2))) else (if ((rd_T77 x14 x16).f0) = 5 then (impl_ArenaOk.j1 k x3 x14 x15 x16 true x497000 x497001 ((rd_T77 x14 x16).f0) ((rd_T77 x14 x16).f1) ((rd_T77 x14 x16).f2.f0) ((rd_T77 x14 x16).f2.f1) ((rd_T77 x14 x16).f2.f2)) else ((impl_areValues.f k ([(rd_T77 x14 x16).f2.f0, (rd_T77 x14 x16).f2.f1, (rd_T77 x14 x16).f2.f2])).bind fun t510 => (impl_ArenaOk.j1 k x3 x14 x15 x16 (!t510) x497000 x497001 ((rd_T77 x14 x16).f0) ((rd_T77 x14 x16).f1) ((rd_T77 x14 x16).f2.f0) ((rd_T77 x14 x16).f2.f1) ((rd_T77 x14 x16).f2.f2))))) else (impl_ArenaOk.j1 k x3 x14 x15 x16 true x497000 x497001 ((rd_T77 x14 x16).f0) ((rd_T77 x14 x16).f1) ((rd_T77 x14 x16).f2.f0) ((rd_T77 x14 x16).f2.f1) ((rd_T77 x14 x16).f2.f2)))) else (none)) else (none)) else (impl_ArenaOk.l1 k x3 x497001 (x497001.length : Int) 0 x497000 x497001)
def impl_ArenaOk.j1 : Nat → Int → List (S77) → Int → Int → Bool → List (S77) → List Int → Int → Bool → Int → Int → Int → Option (Bool)
 | 0, _, _, _, _, _, _, _, _, _, _, _, _ => none
 | k + 1, x3, x14, x15, x16, x39, x497000, x497001, x500000, x500001, x500002, x500003, x500004 => if x39 = true then (some false) else ((impl_isListed.f x500000 x500001 x500002 x500003 x500004).bind fun t511 => (if t511 = true then (impl_ArenaOk.l0 k (wrap64 (x3 + 1)) x14 x15 (wrap64 (x16 + 1)) x497000 x497001) else (impl_ArenaOk.l0 k x3 x14 x15 (wrap64 (x16 + 1)) x497000 x497001)))
def impl_ArenaOk.l1 : Nat → Int → List Int → Int → Int → List (S77) → List Int → Option (Bool)
 | 0, _, _, _, _, _, _ => none
 | k + 1, x3, x46, x47, x48, x497000, x497001 => if x48 < x47 then (if 0 ≤ x48 then (if x48 < (x46.length : Int) then ((impl_in.f (rd x46 x48) 0 (wrap64 ((x497000.length : Int) - 1))).bind fun t513 => (if t513 = true then (if 0 ≤ (rd x46 x48) then (if (rd x46 x48) < (x497000.length : Int) then ((impl_isListed.f ((rd_T77 x497000 (rd x46 x48)).f0) ((rd_T77 x497000 (rd x46 x48)).f1) ((rd_T77 x497000 (rd x46 x48)).f2.f0) ((rd_T77 x497000 (rd x46 x48)).f2.f1) ((rd_T77 x497000 (rd x46 x48)).f2.f2)).bind fun t515 => (if t515 = true then (if x48 ≤ (x497001.length : Int) then ((slices_Contains_int_int.f k (x497001.take (x48 : Int).toNat) (rd x46 x48)).bind fun t517 => (if t517 = true then (some false) else (impl_ArenaOk.l1 k x3 x46 x47 (wrap64 (x48 + 1)) x497000 x497001))) else (none)) else (some false))) else (none)) else (none)) else (some false))) else (none)) else (none)) else (some ((x497001.length : Int) == x3))
end
def impl_ArenaOk.f (k : Nat) (l0_0 : List (S77)) (l0_1 : List Int) : Option (Bool) := (impl_in.f (l0_0.length : Int) 1 24).bind fun t497 => (if t497 = true then (impl_ArenaOk.l0 k 0 l0_0 (l0_0.length : Int) 0 l0_0 l0_1) else (some false))
set_option maxHeartbeats 8000000 in
set_option maxRecDepth 100000 in
theorem impl_ArenaOk.calls (k : Nat) (A0_0 : Option Addr) (c0_0 : Nat) (l0_0 : List (S77)) (A0_1 : Option Addr) (c0_1 : Nat) (l0_1 : List Int) (r : Bool) (w : World) (hr0_0 : Kd.C k77 w A0_0 l0_0.length l0_0) (hc0_0 : l0_0.length ≤ c0_0) (hr0_1 : Kd.C (Kd.int .i64) w A0_1 l0_1.length l0_1) (hc0_1 : l0_1.length ≤ c0_1) (h : impl_ArenaOk.f k l0_0 l0_1 = some r) (ht_ : r = true := by rfl) :
  Calls Try.prog 43 #[.agg #[.slice A0_0 l0_0.length c0_0, .slice A0_1 l0_1.length c0_1]] w fun e w' => e = .returned (.bool r) ∧ Below w.heap.size w w' := by
 subst ht_;have hu27 := Try.underlying27;have hu77 := Try.underlying77;have HR0_0 := A_ hr0_0;have HC0_0 := A_ hc0_0;clear hr0_0 hc0_0;have HR0_1 := A_ hr0_1;have HC0_1 := A_ hc0_1;clear hr0_1 hc0_1;have HB := A_ (Below.refl w.heap.size w);have H : ((impl_in.f (l0_0.length : Int) 1 24).bind fun t497 => (if t497 = true then (impl_ArenaOk.l0 k 0 l0_0 (l0_0.length : Int) 0 l0_0 l0_1) else (some false))) = some true := h;clear h;replace H := Option.bind_eq_some_iff.mp H;obtain ⟨t497, A20, H⟩ := H;have A2 := A_ A20;clear A20
 by_cases c3 : t497 = true
 ·subst c3
  rw [if_pos rfl] at H;have H' := A_ H;clear H
  go_enter Try.func43, Try.ntmps43
  go_wp2_with (first | ((with_reducible refine gd_ 1 rfl ?_); refine bx_ 1 #[.slice A0_0 l0_0.length c0_0, .slice A0_1 l0_1.length c0_1] 27 ?_; intro gb496 hg w4 hbox hb; have BK496 := A_ (hbox); have GW496 := A_ ((szl_ w hg (bw HB.out))); replace HB := A_ (below_step (bw HB.out) hb); have GE496 := GW496; clear hb hbox hg; obtain ⟨hcz5_0, hcz5_1, hfz5_0, hfz5_1⟩ := cs2_ BK496.out) | ((with_reducible refine gk_ 44 rfl ?_); refine gL_ (some 11) Try.func44 #[.int .i64 (l0_0.length : Int), .int .i64 1, .int .i64 24] ?_; (with_reducible refine (impl_in.calls (l0_0.length : Int) 1 24 true _ A2.out).mono ?_); rintro e w' ⟨rfl, ⟨nd, rfl⟩⟩; refine ⟨_, rfl, ?_⟩))
  go_loopg [3, 16] k (fun kq v3 v16 w' => ∃ (x3_1 : Int) (x16_1 : Int), v3 = .int .i64 x3_1 ∧ v16 = .int .i64 x16_1 ∧ Aside0 (impl_ArenaOk.l0 kq x3_1 l0_0 (l0_0.length : Int) x16_1 l0_0 l0_1 = some true) ∧ Aside0 (kq ≤ k) ∧ Aside0 (w'.heap[gb496]? = some (.cells #[(.slice A0_0 l0_0.length c0_0), (.slice A0_1 l0_1.length c0_1)] 27 (0, 0))) ∧ Aside0 (Below w.heap.size w w'))
  case atStart => exact ⟨(0), (0), re, re, H', ⟨Nat.le_refl _⟩, ⟨bk BK496.out⟩, ⟨bw1 HB.out GE496.out⟩⟩
  case round =>
   clear H';(try clear p2); (try clear c3); (try clear c4); (try clear hcz5_0 hcz5_1); (try clear hfz5_0 hfz5_1)
   obtain ⟨x3_1, x16_1, rfl, rfl, HA, HK1, BK496, HB⟩ := hrel;cases gk with
   | zero => exact absurd HA.out (by simp [impl_ArenaOk.l0])
   | succ k1 =>
    have H := HA.out;clear HA;simp only [impl_ArenaOk.l0] at H
    by_cases c6 : x16_1 < (l0_0.length : Int)
    ·rw [if_pos c6] at H
     have c6b0 : decide (x16_1 < (l0_0.length : Int)) = true := decide_eq_true c6;clear c6
     by_cases c7 : 0 ≤ x16_1
     ·rw [if_pos c7] at H
      have c7b0 : decide (0 ≤ x16_1) = true := decide_eq_true c7;clear c7
      by_cases c8 : x16_1 < (l0_0.length : Int)
      ·rw [if_pos c8] at H
       have c8b0 : decide (x16_1 < (l0_0.length : Int)) = true := decide_eq_true c8;clear c8;obtain ⟨bq9, hbq9⟩ : ∃ b_ : Bool, b_ = ((rd_T77 l0_0 x16_1).f1) := ⟨_, rfl⟩;replace H : ((impl_in.f ((rd_T77 l0_0 x16_1).f0) 0 5).bind fun t500 => (if t500 = true then (if (bq9 = true) then ((impl_areValues.f k1 ([(rd_T77 l0_0 x16_1).f2.f0, (rd_T77 l0_0 x16_1).f2.f1, (rd_T77 l0_0 x16_1).f2.f2])).bind fun t505 => (impl_ArenaOk.j1 k1 x3_1 l0_0 (l0_0.length : Int) x16_1 (!t505) l0_0 l0_1 ((rd_T77 l0_0 x16_1).f0) bq9 ((rd_T77 l0_0 x16_1).f2.f0) ((rd_T77 l0_0 x16_1).f2.f1) ((rd_T77 l0_0 x16_1).f2.f2))) else (if ((rd_T77 l0_0 x16_1).f0) = 5 then (impl_ArenaOk.j1 k1 x3_1 l0_0 (l0_0.length : Int) x16_1 true l0_0 l0_1 ((rd_T77 l0_0 x16_1).f0) bq9 ((rd_T77 l0_0 x16_1).f2.f0) ((rd_T77 l0_0 x16_1).f2.f1) ((rd_T77 l0_0 x16_1).f2.f2)) else ((impl_areValues.f k1 ([(rd_T77 l0_0 x16_1).f2.f0, (rd_T77 l0_0 x16_1).f2.f1, (rd_T77 l0_0 x16_1).f2.f2])).bind fun t510 => (impl_ArenaOk.j1 k1 x3_1 l0_0 (l0_0.length : Int) x16_1 (!t510) l0_0 l0_1 ((rd_T77 l0_0 x16_1).f0) bq9 ((rd_T77 l0_0 x16_1).f2.f0) ((rd_T77 l0_0 x16_1).f2.f1) ((rd_T77 l0_0 x16_1).f2.f2))))) else (impl_ArenaOk.j1 k1 x3_1 l0_0 (l0_0.length : Int) x16_1 true l0_0 l0_1 ((rd_T77 l0_0 x16_1).f0) bq9 ((rd_T77 l0_0 x16_1).f2.f0) ((rd_T77 l0_0 x16_1).f2.f1) ((rd_T77 l0_0 x16_1).f2.f2)))) = some true := by first | (rw [← hbq9] at H; exact H) | exact H
       have Nbq9 := A_ hbq9;clear hbq9;have HC10 := A_ H;clear H;have p498 : 0 ≤ (x16_1 : Int) := oa;have q498 : x16_1 < (l0_0.length : Int) := oa;obtain ⟨ad498, e498, hx498_0, hx498_1, hx498_2, hx498_3, hx498_4⟩ := at_T77 HR0_0.out x16_1 p498 q498
       (try rw [← Nbq9.out] at hx498_1)
       cases e498;replace hx498_0 := (HB.out.cell (World.block_lt_of_cell? w _ hx498_0)).trans hx498_0;replace hx498_1 := (HB.out.cell (World.block_lt_of_cell? w _ hx498_1)).trans hx498_1;replace hx498_2 := (HB.out.cell (World.block_lt_of_cell? w _ hx498_2)).trans hx498_2;replace hx498_3 := (HB.out.cell (World.block_lt_of_cell? w _ hx498_3)).trans hx498_3;replace hx498_4 := (HB.out.cell (World.block_lt_of_cell? w _ hx498_4)).trans hx498_4;replace p498 := eq_true p498;replace q498 := eq_true q498
       go_upto_region 7 with (first | ((with_reducible refine gd_ 5 rfl ?_); refine bx_ 5 #[.int .i64 0, .bool false, .int .i64 0, .int .i64 0, .int .i64 0] 77 ?_; intro gb499 hg w11 hbox hb; have BK499 := A_ (hbox); have GW499 := A_ ((szl_ w hg (bw1 HB.out GE496.out))); replace HB := A_ (below_step (bw1 HB.out GE496.out) hb); have GE499 := GW499; have NB496_499 := A_ ((nl_ hg (bL BK496.out))); have NB499_496 := A_ ((ng_ hg (bL BK496.out))); replace BK496 := A_ (bB BK496.out hb); clear hb hbox hg; have hnb12 := NB499_496.out; have hnc12 := NB496_499.out; obtain ⟨hcz13_0, hcz13_1, hcz13_2, hcz13_3, hcz13_4, hfz13_0, hfz13_1, hfz13_2, hfz13_3, hfz13_4⟩ := cs5_ BK499.out) | ((with_reducible refine gate_store (t := 77) (p := 5) rfl ?_); refine store_event (t := 77) (p := 5) (v := ?vo_w14) (w1 := (((((w11.setCell ⟨gb499, 0, none⟩ (.int .i64 ((rd_T77 l0_0 x16_1).f0))).setCell ⟨gb499, 1, none⟩ (.bool bq9)).setCell ⟨gb499, 2, none⟩ (.int .i64 ((rd_T77 l0_0 x16_1).f2.f0))).setCell ⟨gb499, 3, none⟩ (.int .i64 ((rd_T77 l0_0 x16_1).f2.f1))).setCell ⟨gb499, 4, none⟩ (.int .i64 ((rd_T77 l0_0 x16_1).f2.f2)))) ?hg ?ho ?hn ?hr ?_; (case ho => rfl); (case hg => rfl); (case hn => rfl); (case hr => first | (go_simp; done) | (go_simp; rfl)); intro w14 hw; replace BK496 : Aside0 (w14.heap[gb496]? = some (.cells #[.slice (some ad498) l0_0.length c0_0, .slice A0_1 l0_1.length c0_1] 27 (0, 0))) := ⟨(by rw [hw]; exact (bf1 BK496.out NB496_499.out))⟩; replace BK499 : Aside0 (w14.heap[gb499]? = some (.cells #[.int .i64 ((rd_T77 l0_0 x16_1).f0), .bool bq9, .int .i64 ((rd_T77 l0_0 x16_1).f2.f0), .int .i64 ((rd_T77 l0_0 x16_1).f2.f1), .int .i64 ((rd_T77 l0_0 x16_1).f2.f2)] 77 (0, 0))) := ⟨(by rw [hw]; exact (bp BK499.out))⟩; replace HB : Aside0 (Below w.heap.size w w14) := ⟨(by rw [hw]; exact (bw2 HB.out GE496.out GE499.out))⟩; clear hw))
       (try simp only [Act.put, sx_, sy_, sz_])
       go_cut [39] (fun v39 wc => ∃ (kq : Nat) (x39_9 : Bool), v39 = .bool x39_9 ∧ Aside0 (impl_ArenaOk.j1 kq x3_1 l0_0 (l0_0.length : Int) x16_1 x39_9 l0_0 l0_1 ((rd_T77 l0_0 x16_1).f0) bq9 ((rd_T77 l0_0 x16_1).f2.f0) ((rd_T77 l0_0 x16_1).f2.f1) ((rd_T77 l0_0 x16_1).f2.f2) = some true) ∧ Aside0 (kq ≤ k1) ∧ Aside0 (wc.heap[gb496]? = some (.cells #[(.slice (some ad498) l0_0.length c0_0), (.slice A0_1 l0_1.length c0_1)] 27 (0, 0))) ∧ Aside0 (wc.heap[gb499]? = some (.cells #[.int .i64 ((rd_T77 l0_0 x16_1).f0), .bool bq9, .int .i64 ((rd_T77 l0_0 x16_1).f2.f0), .int .i64 ((rd_T77 l0_0 x16_1).f2.f1), .int .i64 ((rd_T77 l0_0 x16_1).f2.f2)] 77 (0, 0))) ∧ Aside0 (Below w.heap.size w wc))
       case first =>
        have H := HC10.out;clear HC10;replace H := Option.bind_eq_some_iff.mp H;obtain ⟨t500, A150, H⟩ := H;have A15 := A_ A150;clear A150
        by_cases c16 : t500 = true
        ·subst c16
         rw [if_pos rfl] at H
         by_cases c17 : (bq9 = true)
         ·subst c17
          rw [if_pos rfl] at H;obtain ⟨y501, hy501⟩ : ∃ y_ : List Int, y_ = ([(rd_T77 l0_0 x16_1).f2.f0, (rd_T77 l0_0 x16_1).f2.f1, (rd_T77 l0_0 x16_1).f2.f2]) := ⟨_, rfl⟩;replace H : ((impl_areValues.f k1 y501).bind fun t505 => (impl_ArenaOk.j1 k1 x3_1 l0_0 (l0_0.length : Int) x16_1 (!t505) l0_0 l0_1 ((rd_T77 l0_0 x16_1).f0) true ((rd_T77 l0_0 x16_1).f2.f0) ((rd_T77 l0_0 x16_1).f2.f1) ((rd_T77 l0_0 x16_1).f2.f2))) = some true := by first | (rw [hy501]; with_reducible exact H) | (have H2_ := (Option.bind_some _ _).symm.trans H; rw [hy501]; with_reducible exact H2_) | (have H2_ := (Option.bind_some _ _).symm.trans H; with_reducible exact H2_) | with_reducible exact H | (rw [hy501]; exact H) | exact H
          have Ny501 := A_ hy501;clear hy501;replace H := Option.bind_eq_some_iff.mp H;obtain ⟨t505, A180, H⟩ := H;have A18 := A_ A180;clear A180;have H' := A_ H;clear H;have hnb19 := NB499_496.out;have hnc19 := NB496_499.out;obtain ⟨hcz20_0, hcz20_1, hcz20_2, hcz20_3, hcz20_4, hfz20_0, hfz20_1, hfz20_2, hfz20_3, hfz20_4⟩ := cs5_ BK499.out
          go_wp2_with (first | ((with_reducible refine gk_ 44 rfl ?_); refine gL_ (some 22) Try.func44 #[.int .i64 ((rd_T77 l0_0 x16_1).f0), .int .i64 0, .int .i64 5] ?_; (with_reducible refine (impl_in.calls ((rd_T77 l0_0 x16_1).f0) 0 5 true _ A15.out).mono ?_); rintro e w' ⟨rfl, ⟨nd, rfl⟩⟩; refine ⟨_, rfl, ?_⟩; obtain ⟨i021, hi021, _, hsz21, _⟩ := info_parts info3; have hcut21 := Go.Proofs.Ytemdjfiimgjiaaa.Opn.cut_arr (P := Try.prog) 75 3 3 Try.underlying75 hi021 gb499 2; have hy21 : y501.length = 3 := (by rw [Ny501.out]; rfl); have HR504 := A_ (show Kd.C (Kd.int .i64) w14 (some ⟨gb499, 2, none⟩) y501.length y501 from (by rw [Ny501.out]; exact (Go.Proofs.Ytemdjfiimgjiaaa.Opn.C_cons_ (bc BK499.out 2) (Go.Proofs.Ytemdjfiimgjiaaa.Opn.C_cons_ (bc BK499.out 3) (Go.Proofs.Ytemdjfiimgjiaaa.Opn.C_cons_ (bc BK499.out 4) (Go.Proofs.Ytemdjfiimgjiaaa.Opn.C_nil_ _ _ _ _)))))); have HC504 := A_ (show y501.length ≤ 3 from Nat.le_of_eq hy21); replace hcut21 := Go.Proofs.Ytemdjfiimgjiaaa.Opn.cut_len hy21 hcut21; clear hi021 hsz21 hy21) | (go_at_call 82; (with_reducible refine (impl_areValues.calls k1 _ _ y501 t505 _ ?side1 ?side2 A18.out).mono ?_); (case side1 => repeat (first | exact (by repeat (first | (with_reducible exact HR504.out) | (with_reducible refine Kd.C_alloc ?_ _) | (with_reducible refine Kd.C_drewN ?_ _) | (with_reducible refine Kd.C_drew ?_) | exact HR504.out)) | (with_reducible refine Kd.C_alloc ?_ _) | (with_reducible refine Kd.C_drewN ?_ _) | (with_reducible refine Kd.C_drew ?_))); (case side2 => exact HC504.out); rintro e w' ⟨rfl, ⟨nd, rfl⟩⟩))
          go_meet
          case rel => exact ⟨_, (!t505), re, H', ⟨by have := HK1.out; first | omega | exact Nat.le_refl _⟩, ⟨bk BK496.out⟩, ⟨bk BK499.out⟩, ⟨bw2 HB.out GE496.out GE499.out⟩⟩
         ·replace c17 := Bool.eq_false_iff.mpr c17
          subst c17;rw [if_neg (show ¬ (false = true) by decide)] at H
          by_cases c22 : ((rd_T77 l0_0 x16_1).f0) = 5
          ·rw [if_pos c22] at H
           have c22b0 : (((rd_T77 l0_0 x16_1).f0) == 5) = true := beq_iff_eq.mpr c22;have c22b1 : (((rd_T77 l0_0 x16_1).f0) != 5) = false := bne_eq_false_iff_eq.mpr c22;clear c22;(first | rw [c22b0] | (simp only [i64_w, i32_w]; rw [c22b0]) | skip)
           exact absurd H (by cases k1 <;> first | (simp [impl_ArenaOk.j1]; done) | ((repeat' split) <;> simp_all [impl_ArenaOk.j1]))
          ·rw [if_neg c22] at H
           have c22b0 : (((rd_T77 l0_0 x16_1).f0) == 5) = false := beq_eq_false_iff_ne.mpr c22;have c22b1 : (((rd_T77 l0_0 x16_1).f0) != 5) = true := bne_iff_ne.mpr c22;(first | rw [c22b0] | (simp only [i64_w, i32_w]; rw [c22b0]) | skip)
           obtain ⟨y506, hy506⟩ : ∃ y_ : List Int, y_ = ([(rd_T77 l0_0 x16_1).f2.f0, (rd_T77 l0_0 x16_1).f2.f1, (rd_T77 l0_0 x16_1).f2.f2]) := ⟨_, rfl⟩;replace H : ((impl_areValues.f k1 y506).bind fun t510 => (impl_ArenaOk.j1 k1 x3_1 l0_0 (l0_0.length : Int) x16_1 (!t510) l0_0 l0_1 ((rd_T77 l0_0 x16_1).f0) false ((rd_T77 l0_0 x16_1).f2.f0) ((rd_T77 l0_0 x16_1).f2.f1) ((rd_T77 l0_0 x16_1).f2.f2))) = some true := by first | (rw [hy506]; with_reducible exact H) | (have H2_ := (Option.bind_some _ _).symm.trans H; rw [hy506]; with_reducible exact H2_) | (have H2_ := (Option.bind_some _ _).symm.trans H; with_reducible exact H2_) | with_reducible exact H | (rw [hy506]; exact H) | exact H
           have Ny506 := A_ hy506;clear hy506;replace H := Option.bind_eq_some_iff.mp H;obtain ⟨t510, A230, H⟩ := H;have A23 := A_ A230;clear A230;have H' := A_ H;clear H;have hnb24 := NB499_496.out;have hnc24 := NB496_499.out;obtain ⟨hcz25_0, hcz25_1, hcz25_2, hcz25_3, hcz25_4, hfz25_0, hfz25_1, hfz25_2, hfz25_3, hfz25_4⟩ := cs5_ BK499.out
           go_wp2_with (first | ((with_reducible refine gk_ 44 rfl ?_); refine gL_ (some 22) Try.func44 #[.int .i64 ((rd_T77 l0_0 x16_1).f0), .int .i64 0, .int .i64 5] ?_; (with_reducible refine (impl_in.calls ((rd_T77 l0_0 x16_1).f0) 0 5 true _ A15.out).mono ?_); rintro e w' ⟨rfl, ⟨nd, rfl⟩⟩; refine ⟨_, rfl, ?_⟩; obtain ⟨i026, hi026, _, hsz26, _⟩ := info_parts info3; have hcut26 := Go.Proofs.Ytemdjfiimgjiaaa.Opn.cut_arr (P := Try.prog) 75 3 3 Try.underlying75 hi026 gb499 2; have hy26 : y506.length = 3 := (by rw [Ny506.out]; rfl); have HR509 := A_ (show Kd.C (Kd.int .i64) w14 (some ⟨gb499, 2, none⟩) y506.length y506 from (by rw [Ny506.out]; exact (Go.Proofs.Ytemdjfiimgjiaaa.Opn.C_cons_ (bc BK499.out 2) (Go.Proofs.Ytemdjfiimgjiaaa.Opn.C_cons_ (bc BK499.out 3) (Go.Proofs.Ytemdjfiimgjiaaa.Opn.C_cons_ (bc BK499.out 4) (Go.Proofs.Ytemdjfiimgjiaaa.Opn.C_nil_ _ _ _ _)))))); have HC509 := A_ (show y506.length ≤ 3 from Nat.le_of_eq hy26); replace hcut26 := Go.Proofs.Ytemdjfiimgjiaaa.Opn.cut_len hy26 hcut26; clear hi026 hsz26 hy26) | (go_at_call 82; (with_reducible refine (impl_areValues.calls k1 _ _ y506 t510 _ ?side1 ?side2 A23.out).mono ?_); (case side1 => repeat (first | exact (by repeat (first | (with_reducible exact HR509.out) | (with_reducible refine Kd.C_alloc ?_ _) | (with_reducible refine Kd.C_drewN ?_ _) | (with_reducible refine Kd.C_drew ?_) | exact HR509.out)) | (with_reducible refine Kd.C_alloc ?_ _) | (with_reducible refine Kd.C_drewN ?_ _) | (with_reducible refine Kd.C_drew ?_))); (case side2 => exact HC509.out); rintro e w' ⟨rfl, ⟨nd, rfl⟩⟩))
           go_meet
           case rel => exact ⟨_, (!t510), re, H', ⟨by have := HK1.out; first | omega | exact Nat.le_refl _⟩, ⟨bk BK496.out⟩, ⟨bk BK499.out⟩, ⟨bw2 HB.out GE496.out GE499.out⟩⟩
        ·replace c16 := Bool.eq_false_iff.mpr c16
         subst c16;rw [if_neg (show ¬ (false = true) by decide)] at H;exact absurd H (by cases k1 <;> first | (simp [impl_ArenaOk.j1]; done) | ((repeat' split) <;> simp_all [impl_ArenaOk.j1]))
       case rest =>
        clear HC10;(try clear c1); (try clear c2); (try clear p2); (try clear c3); (try clear c4); (try clear p4); (try clear q4); (try clear hx4); (try clear c6); (try clear c6b0); (try clear c7); (try clear c7b0); (try clear c8); (try clear c8b0); (try clear q9); (try clear c12); (try clear c16); (try clear c17); (try clear c19); (try clear c22); (try clear c22b0); (try clear c22b1); (try clear c24); (try clear hcz13_0 hcz13_1 hcz13_2 hcz13_3 hcz13_4); (try clear hcz20_0 hcz20_1 hcz20_2 hcz20_3 hcz20_4); (try clear hcz25_0 hcz25_1 hcz25_2 hcz25_3 hcz25_4); (try clear hcz5_0 hcz5_1); (try clear hfz13_0 hfz13_1 hfz13_2 hfz13_3 hfz13_4); (try clear hfz20_0 hfz20_1 hfz20_2 hfz20_3 hfz20_4); (try clear hfz25_0 hfz25_1 hfz25_2 hfz25_3 hfz25_4); (try clear hfz5_0 hfz5_1); (try clear hx498_0 hx498_1 hx498_2 hx498_3 hx498_4); (try clear p2); (try clear p498); (try clear q498)
        obtain ⟨kq, x39_9, rfl, HA, HJ9, BK496, BK499, HB⟩ := hcut;cases kq with
        | zero => exact absurd HA.out (by simp [impl_ArenaOk.j1])
        | succ kj9 =>
         have H := HA.out;clear HA;simp only [impl_ArenaOk.j1] at H
         by_cases c27 : x39_9 = true
         ·subst c27
          rw [if_pos rfl] at H;exact absurd H (by first | (simp; done) | ((repeat' split) <;> simp))
         ·replace c27 := Bool.eq_false_iff.mpr c27
          subst c27;rw [if_neg (show ¬ (false = true) by decide)] at H;replace H := Option.bind_eq_some_iff.mp H;obtain ⟨t511, A280, H⟩ := H;have A28 := A_ A280;clear A280
          by_cases c29 : t511 = true
          ·subst c29
           rw [if_pos rfl] at H;have H' := A_ H;clear H;have hnb30 := NB499_496.out;have hnc30 := NB496_499.out;obtain ⟨hcz31_0, hcz31_1, hcz31_2, hcz31_3, hcz31_4, hfz31_0, hfz31_1, hfz31_2, hfz31_3, hfz31_4⟩ := cs5_ BK499.out
           go_wp2_with (first | ((with_reducible refine gk_ 81 rfl ?_); refine gL_ (some 41) Try.func81 #[.agg #[.int .i64 ((rd_T77 l0_0 x16_1).f0), .bool bq9, .int .i64 ((rd_T77 l0_0 x16_1).f2.f0), .int .i64 ((rd_T77 l0_0 x16_1).f2.f1), .int .i64 ((rd_T77 l0_0 x16_1).f2.f2)]] ?_; (with_reducible refine (impl_isListed.calls ((rd_T77 l0_0 x16_1).f0) bq9 ((rd_T77 l0_0 x16_1).f2.f0) ((rd_T77 l0_0 x16_1).f2.f1) ((rd_T77 l0_0 x16_1).f2.f2) true _ A28.out).mono ?_); rintro e w32 ⟨rfl, hb⟩; refine ⟨_, rfl, ?_⟩; replace BK496 := A_ (bB BK496.out hb); replace BK499 := A_ (bB BK499.out hb); replace HB := A_ (below_step (bw2 HB.out GE496.out GE499.out) hb); (try clear hb)))
           go_roundg kj9
           case measure => have := HK1.out; have := HJ9.out; omega
           case rel => exact ⟨(wrap64 (x3_1 + 1)), (wrap64 (x16_1 + 1)), re, re, H', ⟨by have := HK1.out; have := HJ9.out; omega⟩, ⟨bk BK496.out⟩, ⟨bw2 HB.out GE496.out GE499.out⟩⟩
          ·replace c29 := Bool.eq_false_iff.mpr c29
           subst c29;rw [if_neg (show ¬ (false = true) by decide)] at H;have H' := A_ H;clear H;have hnb33 := NB499_496.out;have hnc33 := NB496_499.out;obtain ⟨hcz34_0, hcz34_1, hcz34_2, hcz34_3, hcz34_4, hfz34_0, hfz34_1, hfz34_2, hfz34_3, hfz34_4⟩ := cs5_ BK499.out
           go_wp2_with (first | ((with_reducible refine gk_ 81 rfl ?_); refine gL_ (some 41) Try.func81 #[.agg #[.int .i64 ((rd_T77 l0_0 x16_1).f0), .bool bq9, .int .i64 ((rd_T77 l0_0 x16_1).f2.f0), .int .i64 ((rd_T77 l0_0 x16_1).f2.f1), .int .i64 ((rd_T77 l0_0 x16_1).f2.f2)]] ?_; (with_reducible refine (impl_isListed.calls ((rd_T77 l0_0 x16_1).f0) bq9 ((rd_T77 l0_0 x16_1).f2.f0) ((rd_T77 l0_0 x16_1).f2.f1) ((rd_T77 l0_0 x16_1).f2.f2) false _ A28.out).mono ?_); rintro e w35 ⟨rfl, hb⟩; refine ⟨_, rfl, ?_⟩; replace BK496 := A_ (bB BK496.out hb); replace BK499 := A_ (bB BK499.out hb); replace HB := A_ (below_step (bw2 HB.out GE496.out GE499.out) hb); (try clear hb)))
           go_roundg kj9
           case measure => have := HK1.out; have := HJ9.out; omega
           case rel => exact ⟨(x3_1), (wrap64 (x16_1 + 1)), re, re, H', ⟨by have := HK1.out; have := HJ9.out; omega⟩, ⟨bk BK496.out⟩, ⟨bw2 HB.out GE496.out GE499.out⟩⟩
      ·rw [if_neg c8] at H
       exact absurd H (by simp)
     ·rw [if_neg c7] at H
      exact absurd H (by simp)
    ·rw [if_neg c6] at H
     have c6b0 : decide (x16_1 < (l0_0.length : Int)) = false := decide_eq_false c6;clear c6;have H' := A_ H;clear H;obtain ⟨hcz36_0, hcz36_1, hfz36_0, hfz36_1⟩ := cs2_ BK496.out;go_wp2
     go_loopg [48] k1 (fun kq v48 w' => ∃ (x48_2 : Int), v48 = .int .i64 x48_2 ∧ Aside0 (impl_ArenaOk.l1 kq x3_1 l0_1 (l0_1.length : Int) x48_2 l0_0 l0_1 = some true) ∧ Aside0 (kq ≤ k1) ∧ Aside0 (w'.heap[gb496]? = some (.cells #[(.slice A0_0 l0_0.length c0_0), (.slice A0_1 l0_1.length c0_1)] 27 (0, 0))) ∧ Aside0 (Below w.heap.size w w'))
     case atStart => exact ⟨(0), re, H', ⟨Nat.le_refl _⟩, ⟨bk BK496.out⟩, ⟨bw1 HB.out GE496.out⟩⟩
     case round =>
      clear H';(try clear c1); (try clear c2); (try clear p2); (try clear c3); (try clear c4); (try clear p4); (try clear q4); (try clear hx4); (try clear c6); (try clear c6b0); (try clear p6); (try clear c7); (try clear c7b0); (try clear c8); (try clear c8b0); (try clear q9); (try clear c12); (try clear c16); (try clear c17); (try clear c19); (try clear c22); (try clear c22b0); (try clear c22b1); (try clear c24); (try clear c27); (try clear c29); (try clear c30); (try clear c33); (try clear hcz13_0 hcz13_1 hcz13_2 hcz13_3 hcz13_4); (try clear hcz20_0 hcz20_1 hcz20_2 hcz20_3 hcz20_4); (try clear hcz25_0 hcz25_1 hcz25_2 hcz25_3 hcz25_4); (try clear hcz31_0 hcz31_1 hcz31_2 hcz31_3 hcz31_4); (try clear hcz34_0 hcz34_1 hcz34_2 hcz34_3 hcz34_4); (try clear hcz36_0 hcz36_1); (try clear hcz5_0 hcz5_1); (try clear hfz13_0 hfz13_1 hfz13_2 hfz13_3 hfz13_4); (try clear hfz20_0 hfz20_1 hfz20_2 hfz20_3 hfz20_4); (try clear hfz25_0 hfz25_1 hfz25_2 hfz25_3 hfz25_4); (try clear hfz31_0 hfz31_1 hfz31_2 hfz31_3 hfz31_4); (try clear hfz34_0 hfz34_1 hfz34_2 hfz34_3 hfz34_4); (try clear hfz36_0 hfz36_1); (try clear hfz5_0 hfz5_1); (try clear hx498_0 hx498_1 hx498_2 hx498_3 hx498_4); (try clear p2); (try clear p4); (try clear p498); (try clear q4); (try clear q498); (try clear q9)
      obtain ⟨x48_2, rfl, HA, HK2, BK496, HB⟩ := hrel;cases gk with
      | zero => exact absurd HA.out (by simp [impl_ArenaOk.l1])
      | succ k2 =>
       have H := HA.out;clear HA;simp only [impl_ArenaOk.l1] at H
       by_cases c37 : x48_2 < (l0_1.length : Int)
       ·rw [if_pos c37] at H
        have c37b0 : decide (x48_2 < (l0_1.length : Int)) = true := decide_eq_true c37;clear c37
        by_cases c38 : 0 ≤ x48_2
        ·rw [if_pos c38] at H
         have c38b0 : decide (0 ≤ x48_2) = true := decide_eq_true c38;clear c38
         by_cases c39 : x48_2 < (l0_1.length : Int)
         ·rw [if_pos c39] at H
          have c39b0 : decide (x48_2 < (l0_1.length : Int)) = true := decide_eq_true c39;clear c39;replace H := Option.bind_eq_some_iff.mp H;obtain ⟨t513, A400, H⟩ := H;have A40 := A_ A400;clear A400
          by_cases c41 : t513 = true
          ·subst c41
           rw [if_pos rfl] at H
           by_cases c42 : 0 ≤ (rd l0_1 x48_2)
           ·rw [if_pos c42] at H
            have c42b0 : decide (0 ≤ (rd l0_1 x48_2)) = true := decide_eq_true c42;clear c42
            by_cases c43 : (rd l0_1 x48_2) < (l0_0.length : Int)
            ·rw [if_pos c43] at H
             have c43b0 : decide ((rd l0_1 x48_2) < (l0_0.length : Int)) = true := decide_eq_true c43;clear c43;replace H := Option.bind_eq_some_iff.mp H;obtain ⟨t515, A440, H⟩ := H;have A44 := A_ A440;clear A440
             by_cases c45 : t515 = true
             ·subst c45
              rw [if_pos rfl] at H;have c46b0 := eq_true (oa : 0 ≤ x48_2)
              by_cases c47 : x48_2 ≤ (l0_1.length : Int)
              ·rw [if_pos c47] at H
               have c47b0 := eq_true c47;have c47b1 : decide (x48_2 ≤ (l0_1.length : Int)) = true := decide_eq_true c47;clear c47;replace H := Option.bind_eq_some_iff.mp H;obtain ⟨t517, A480, H⟩ := H;have A48 := A_ A480;clear A480
               by_cases c49 : t517 = true
               ·subst c49
                rw [if_pos rfl] at H;exact absurd H (by first | (simp; done) | ((repeat' split) <;> simp))
               ·replace c49 := Bool.eq_false_iff.mpr c49
                subst c49;rw [if_neg (show ¬ (false = true) by decide)] at H;have H' := A_ H;clear H;have p512 : 0 ≤ (x48_2 : Int) := oa;have q512 : x48_2 < (l0_1.length : Int) := oa;obtain ⟨ad512, e512, hx512_0⟩ := Kd.at_int HR0_1.out x48_2 p512 q512;cases e512;replace hx512_0 := (HB.out.cell (World.block_lt_of_cell? w _ hx512_0)).trans hx512_0;replace p512 := eq_true p512;replace q512 := eq_true q512;obtain ⟨hcz50_0, hcz50_1, hfz50_0, hfz50_1⟩ := cs2_ BK496.out
                go_wp2_with (first | ((with_reducible refine gk_ 44 rfl ?_); refine gL_ (some 58) Try.func44 #[.int .i64 (rd l0_1 x48_2), .int .i64 0, .int .i64 (wrap64 ((l0_0.length : Int) - 1))] ?_; (with_reducible refine (impl_in.calls (rd l0_1 x48_2) 0 (wrap64 ((l0_0.length : Int) - 1)) true _ A40.out).mono ?_); rintro e w' ⟨rfl, ⟨nd, rfl⟩⟩; refine ⟨_, rfl, ?_⟩; have p514 : 0 ≤ ((rd l0_1 x48_2) : Int) := oa; have q514 : (rd l0_1 x48_2) < (l0_0.length : Int) := oa; obtain ⟨ad514, e514, hx514_0, hx514_1, hx514_2, hx514_3, hx514_4⟩ := at_T77 HR0_0.out (rd l0_1 x48_2) p514 q514; cases e514; replace hx514_0 := (HB.out.cell (World.block_lt_of_cell? w _ hx514_0)).trans hx514_0; replace hx514_1 := (HB.out.cell (World.block_lt_of_cell? w _ hx514_1)).trans hx514_1; replace hx514_2 := (HB.out.cell (World.block_lt_of_cell? w _ hx514_2)).trans hx514_2; replace hx514_3 := (HB.out.cell (World.block_lt_of_cell? w _ hx514_3)).trans hx514_3; replace hx514_4 := (HB.out.cell (World.block_lt_of_cell? w _ hx514_4)).trans hx514_4; replace p514 := eq_true p514; replace q514 := eq_true q514) | (go_at_call 81; (with_reducible refine (impl_isListed.calls ((rd_T77 l0_0 (rd l0_1 x48_2)).f0) ((rd_T77 l0_0 (rd l0_1 x48_2)).f1) ((rd_T77 l0_0 (rd l0_1 x48_2)).f2.f0) ((rd_T77 l0_0 (rd l0_1 x48_2)).f2.f1) ((rd_T77 l0_0 (rd l0_1 x48_2)).f2.f2) true _ A44.out).mono ?_); rintro e w51 ⟨rfl, hb⟩; replace BK496 := A_ (bB BK496.out hb); replace HB := A_ (below_step (bw1 HB.out GE496.out) hb); (try clear hb); obtain ⟨hcz52_0, hcz52_1, hfz52_0, hfz52_1⟩ := cs2_ BK496.out; obtain ⟨i053, hi053, _, hsz53, _⟩ := info_parts info3; obtain ⟨hcut53, hA53, hC53⟩ := print_take_of (P := Try.prog) (Value.int .i64) 0 25 3 .i64 Try.underlying25 hi053 hsz53 (some ad512) c0_1 l0_1 x48_2 (oa) (oa) HC0_1.out; have HR516 := A_ (Kd.C_of_reads (h1 := fun _ => rfl) (hA53 _ (Kd.reads_of_C HR0_1.out))); have HC516 := A_ hC53; clear hA53 hC53 hi053 hsz53) | (go_at_call 83; (first | (refine calls_of_args (args' := #[.slice (some ad512) (l0_1.take (x48_2 : Int).toNat).length c0_1, .int .i64 (rd l0_1 x48_2)]) (by first | (rw [show (l0_1.take (x48_2 : Int).toNat).length = x48_2.toNat from (by rw [List.length_take]; have h_ : (x48_2 : Int) ≤ (l0_1.length : Int) := oa; omega)] <;> rfl) | rfl) ?_) | skip); (with_reducible refine (slices_Contains_int_int.calls k2 _ _ (l0_1.take (x48_2 : Int).toNat) (rd l0_1 x48_2) false _ ?side1 ?side2 A48.out).mono ?_); (case side1 => exact ck (Kd.C_below HR516.out HB.out)); (case side2 => exact HC516.out); rintro e w' ⟨rfl, ⟨nd, rfl⟩⟩))
                go_roundg k2
                case measure => have := HK1.out; have := HK2.out; omega
                case rel => exact ⟨(wrap64 (x48_2 + 1)), re, H', ⟨by have := HK1.out; have := HK2.out; omega⟩, ⟨bk BK496.out⟩, ⟨bw1 HB.out GE496.out⟩⟩
              ·rw [if_neg c47] at H
               exact absurd H (by simp)
             ·replace c45 := Bool.eq_false_iff.mpr c45
              subst c45;rw [if_neg (show ¬ (false = true) by decide)] at H;exact absurd H (by first | (simp; done) | ((repeat' split) <;> simp))
            ·rw [if_neg c43] at H
             exact absurd H (by simp)
           ·rw [if_neg c42] at H
            exact absurd H (by simp)
          ·replace c41 := Bool.eq_false_iff.mpr c41
           subst c41;rw [if_neg (show ¬ (false = true) by decide)] at H;exact absurd H (by first | (simp; done) | ((repeat' split) <;> simp))
         ·rw [if_neg c39] at H
          exact absurd H (by simp)
        ·rw [if_neg c38] at H
         exact absurd H (by simp)
       ·rw [if_neg c37] at H
        have c37b0 : decide (x48_2 < (l0_1.length : Int)) = false := decide_eq_false c37;clear c37;have HT_ := A_ (Option.some.inj H);clear H;obtain ⟨hcz54_0, hcz54_1, hfz54_0, hfz54_1⟩ := cs2_ BK496.out;go_wp2
        go_ret
        (try rw [HT_.out])
        (try simp only [HT_.out])
        exact ⟨er, bw1 HB.out GE496.out⟩
 ·replace c3 := Bool.eq_false_iff.mpr c3
  subst c3;rw [if_neg (show ¬ (false = true) by decide)] at H;exact absurd H (by first | (simp; done) | ((repeat' split) <;> simp))

def impl_Live.f (k : Nat) (l0_0 : List (S77)) (l0_1 : List Int) (a1 : Int) : Option (Bool) := (impl_ArenaOk.f k l0_0 l0_1).bind fun t519 => (if t519 = true then ((impl_in.f a1 0 (wrap64 ((wrap64 (8 * (l0_0.length : Int))) - 1))).bind fun t520 => (if t520 = true then (if 0 ≤ (wrap64 (Int.tdiv a1 8)) then (if (wrap64 (Int.tdiv a1 8)) < (l0_0.length : Int) then (if ((rd_T77 l0_0 (wrap64 (Int.tdiv a1 8))).f1 = true) then (some false) else (some (((rd_T77 l0_0 (wrap64 (Int.tdiv a1 8))).f0) == (Int.tmod a1 8)))) else (none)) else (none)) else (some false))) else (none))
set_option maxHeartbeats 8000000 in
set_option maxRecDepth 100000 in
theorem impl_Live.calls (k : Nat) (A0_0 : Option Addr) (c0_0 : Nat) (l0_0 : List (S77)) (A0_1 : Option Addr) (c0_1 : Nat) (l0_1 : List Int) (a1 : Int) (r : Bool) (w : World) (hr0_0 : Kd.C k77 w A0_0 l0_0.length l0_0) (hc0_0 : l0_0.length ≤ c0_0) (hr0_1 : Kd.C (Kd.int .i64) w A0_1 l0_1.length l0_1) (hc0_1 : l0_1.length ≤ c0_1) (h : impl_Live.f k l0_0 l0_1 a1 = some r) :
  Calls Try.prog 19 #[.agg #[.slice A0_0 l0_0.length c0_0, .slice A0_1 l0_1.length c0_1], .int .i64 a1] w fun e w' => e = .returned (.bool r) ∧ Below w.heap.size w w' := by
 have hu27 := Try.underlying27;have hu77 := Try.underlying77;have HR0_0 := A_ hr0_0;have HC0_0 := A_ hc0_0;clear hr0_0 hc0_0;have HR0_1 := A_ hr0_1;have HC0_1 := A_ hc0_1;clear hr0_1 hc0_1;have HB := A_ (Below.refl w.heap.size w);have H : ((impl_ArenaOk.f k l0_0 l0_1).bind fun t519 => (if t519 = true then ((impl_in.f a1 0 (wrap64 ((wrap64 (8 * (l0_0.length : Int))) - 1))).bind fun t520 => (if t520 = true then (if 0 ≤ (wrap64 (Int.tdiv a1 8)) then (if (wrap64 (Int.tdiv a1 8)) < (l0_0.length : Int) then (if ((rd_T77 l0_0 (wrap64 (Int.tdiv a1 8))).f1 = true) then (some false) else (some (((rd_T77 l0_0 (wrap64 (Int.tdiv a1 8))).f0) == (Int.tmod a1 8)))) else (none)) else (none)) else (some false))) else (none))) = some r := h;clear h;replace H := Option.bind_eq_some_iff.mp H;obtain ⟨t519, A30, H⟩ := H;have A3 := A_ A30;clear A30
 by_cases c4 : t519 = true
 ·subst c4
  rw [if_pos rfl] at H;replace H := Option.bind_eq_some_iff.mp H;obtain ⟨t520, A50, H⟩ := H;have A5 := A_ A50;clear A50;have HC6 := A_ H;clear H
  go_enter Try.func19, Try.ntmps19
  go_upto_if 18 with (first | ((with_reducible refine gd_ 2 rfl ?_); (try (refine gate_guard (by rfl) ?_; dsimp only)); refine bx_ 2 #[.slice A0_0 l0_0.length c0_0, .slice A0_1 l0_1.length c0_1] 27 ?_; intro gb518 hg w7 hbox hb; have BK518 := A_ (hbox); have GW518 := A_ ((szl_ w hg (bw HB.out))); replace HB := A_ (below_step (bw HB.out) hb); have GE518 := GW518; clear hb hbox hg; obtain ⟨hcz8_0, hcz8_1, hfz8_0, hfz8_1⟩ := cs2_ BK518.out) | ((with_reducible refine gk_ 43 rfl ?_); refine gL_ (some 7) Try.func43 #[.agg #[.slice A0_0 l0_0.length c0_0, .slice A0_1 l0_1.length c0_1]] ?_; (with_reducible refine (impl_ArenaOk.calls k _ _ l0_0 _ _ l0_1 true _ ?side1 ?side2 ?side3 ?side4 A3.out).mono ?_); (case side1 => exact ck (Kd.C_below HR0_0.out HB.out)); (case side2 => exact HC0_0.out); (case side3 => exact ck (Kd.C_below HR0_1.out HB.out)); (case side4 => exact HC0_1.out); rintro e w9 ⟨rfl, hb⟩; refine ⟨_, rfl, ?_⟩; replace BK518 := A_ (bB BK518.out hb); replace HB := A_ (below_step (bw1 HB.out GE518.out) hb); (try clear hb); obtain ⟨hcz10_0, hcz10_1, hfz10_0, hfz10_1⟩ := cs2_ BK518.out) | (go_at_call 44; (with_reducible refine (impl_in.calls a1 0 (wrap64 ((wrap64 (8 * (l0_0.length : Int))) - 1)) t520 _ A5.out).mono ?_); rintro e w' ⟨rfl, ⟨nd, rfl⟩⟩))
  (try simp only [Act.put, sx_, sy_, sz_])
  have H := HC6.out;clear HC6
  by_cases c11 : t520 = true
  ·subst c11
   rw [if_pos rfl] at H;obtain ⟨ji12, hji12⟩ : ∃ j_ : Int, (wrap64 (Int.tdiv a1 8)) = j_ := ⟨_, rfl⟩;rw [hji12] at H;have hji12w : (IntKind.i64.wrap (Int.tdiv a1 8)) = ji12 := (i64_w _).trans hji12
   by_cases c13 : 0 ≤ (ji12)
   ·rw [if_pos c13] at H
    have c13b0 : decide (0 ≤ (ji12)) = true := decide_eq_true c13;clear c13;(first | rw [c13b0] | (simp only [i64_w, i32_w]; rw [c13b0]) | skip)
    by_cases c14 : (ji12) < (l0_0.length : Int)
    ·rw [if_pos c14] at H
     have c14b0 : decide ((ji12) < (l0_0.length : Int)) = true := decide_eq_true c14;clear c14;obtain ⟨bq15, hbq15⟩ : ∃ b_ : Bool, b_ = ((rd_T77 l0_0 (ji12)).f1) := ⟨_, rfl⟩;rw [← hbq15] at H;have Nbq15 := A_ hbq15;clear hbq15
     by_cases c16 : (bq15 = true)
     ·subst c16
      rw [if_pos rfl] at H;obtain rfl := Option.some.inj H;obtain ⟨hcz17_0, hcz17_1, hfz17_0, hfz17_1⟩ := cs2_ BK518.out;have p521 : 0 ≤ ((ji12) : Int) := oa;have q521 : (ji12) < (l0_0.length : Int) := oa;obtain ⟨ad521, e521, hx521_0, hx521_1, hx521_2, hx521_3, hx521_4⟩ := at_T77 HR0_0.out (ji12) p521 q521
      (try rw [← Nbq15.out] at hx521_1)
      cases e521;replace hx521_0 := (HB.out.cell (World.block_lt_of_cell? w _ hx521_0)).trans hx521_0;replace hx521_1 := (HB.out.cell (World.block_lt_of_cell? w _ hx521_1)).trans hx521_1;replace hx521_2 := (HB.out.cell (World.block_lt_of_cell? w _ hx521_2)).trans hx521_2;replace hx521_3 := (HB.out.cell (World.block_lt_of_cell? w _ hx521_3)).trans hx521_3;replace hx521_4 := (HB.out.cell (World.block_lt_of_cell? w _ hx521_4)).trans hx521_4;replace p521 := eq_true p521;replace q521 := eq_true q521
      go_wp2_with (first | ((with_reducible refine gd_ 5 rfl ?_); (try (refine gate_guard (by rfl) ?_; dsimp only)); refine bx_ 5 #[.int .i64 0, .bool false, .int .i64 0, .int .i64 0, .int .i64 0] 77 ?_; intro gb522 hg w18 hbox hb; have BK522 := A_ (hbox); have GW522 := A_ ((szl_ w hg (bw1 HB.out GE518.out))); replace HB := A_ (below_step (bw1 HB.out GE518.out) hb); have GE522 := GW522; have NB518_522 := A_ ((nl_ hg (bL BK518.out))); have NB522_518 := A_ ((ng_ hg (bL BK518.out))); replace BK518 := A_ (bB BK518.out hb); clear hb hbox hg; have hnb19 := NB522_518.out; have hnc19 := NB518_522.out; obtain ⟨hcz20_0, hcz20_1, hcz20_2, hcz20_3, hcz20_4, hfz20_0, hfz20_1, hfz20_2, hfz20_3, hfz20_4⟩ := cs5_ BK522.out))
      go_ret
      exact ⟨by first | rfl | (simp [errW_none, errW_some] <;> rfl) | (simp only [← hji12]; first | rfl | (simp [errW_none, errW_some] <;> rfl)) | (simp [*, errW_none, errW_some] <;> rfl), bw2 HB.out GE518.out GE522.out⟩
     ·replace c16 := Bool.eq_false_iff.mpr c16
      subst c16;rw [if_neg (show ¬ (false = true) by decide)] at H;obtain rfl := Option.some.inj H;obtain ⟨hcz21_0, hcz21_1, hfz21_0, hfz21_1⟩ := cs2_ BK518.out;have p521 : 0 ≤ ((ji12) : Int) := oa;have q521 : (ji12) < (l0_0.length : Int) := oa;obtain ⟨ad521, e521, hx521_0, hx521_1, hx521_2, hx521_3, hx521_4⟩ := at_T77 HR0_0.out (ji12) p521 q521
      (try rw [← Nbq15.out] at hx521_1)
      cases e521;replace hx521_0 := (HB.out.cell (World.block_lt_of_cell? w _ hx521_0)).trans hx521_0;replace hx521_1 := (HB.out.cell (World.block_lt_of_cell? w _ hx521_1)).trans hx521_1;replace hx521_2 := (HB.out.cell (World.block_lt_of_cell? w _ hx521_2)).trans hx521_2;replace hx521_3 := (HB.out.cell (World.block_lt_of_cell? w _ hx521_3)).trans hx521_3;replace hx521_4 := (HB.out.cell (World.block_lt_of_cell? w _ hx521_4)).trans hx521_4;replace p521 := eq_true p521;replace q521 := eq_true q521
      go_wp2_with (first | ((with_reducible refine gd_ 5 rfl ?_); (try (refine gate_guard (by rfl) ?_; dsimp only)); refine bx_ 5 #[.int .i64 0, .bool false, .int .i64 0, .int .i64 0, .int .i64 0] 77 ?_; intro gb522 hg w22 hbox hb; have BK522 := A_ (hbox); have GW522 := A_ ((szl_ w hg (bw1 HB.out GE518.out))); replace HB := A_ (below_step (bw1 HB.out GE518.out) hb); have GE522 := GW522; have NB518_522 := A_ ((nl_ hg (bL BK518.out))); have NB522_518 := A_ ((ng_ hg (bL BK518.out))); replace BK518 := A_ (bB BK518.out hb); clear hb hbox hg; have hnb23 := NB522_518.out; have hnc23 := NB518_522.out; obtain ⟨hcz24_0, hcz24_1, hcz24_2, hcz24_3, hcz24_4, hfz24_0, hfz24_1, hfz24_2, hfz24_3, hfz24_4⟩ := cs5_ BK522.out))
      go_ret
      exact ⟨by first | rfl | (simp [errW_none, errW_some] <;> rfl) | (simp only [← hji12]; first | rfl | (simp [errW_none, errW_some] <;> rfl)) | (simp [*, errW_none, errW_some] <;> rfl), bw2 HB.out GE518.out GE522.out⟩
    ·rw [if_neg c14] at H
     exact absurd H (by simp)
   ·rw [if_neg c13] at H
    exact absurd H (by simp)
  ·replace c11 := Bool.eq_false_iff.mpr c11
   subst c11;rw [if_neg (show ¬ (false = true) by decide)] at H;obtain rfl := Option.some.inj H;go_wp2
   go_ret
   exact ⟨er, bw1 HB.out GE518.out⟩
 ·replace c4 := Bool.eq_false_iff.mpr c4
  subst c4;rw [if_neg (show ¬ (false = true) by decide)] at H;exact absurd H (by simp)

-- NOT PRINTED: function 46 (impl_YardOk_1)

-- NOT PRINTED: function 102 (impl_Gone_102)

-- NOT PRINTED: function 85 (impl_Gone_85)

-- NOT PRINTED: function 86 (impl_isRetired_1)

def impl_isRetired_1_c2.f (a0_0 : Int) (a0_1 : Int) (a1 : Int) : Option (Bool) := some (a0_0 == a1)
set_option maxHeartbeats 8000000 in
set_option maxRecDepth 100000 in
theorem impl_isRetired_1_c2.calls (a0_0 : Int) (a0_1 : Int) (a1 : Int) (gx : Nat) (r : Bool) (w : World) (hgx : w.heap[gx]? = some (.cells #[.int .i64 a1] 3 (0, 0))) (h : impl_isRetired_1_c2.f a0_0 a0_1 a1 = some r) :
  Calls Try.prog 86 #[.agg #[.int .i64 a0_0, .int .i64 a0_1], .pointer (some ⟨gx, 0, none⟩)] w fun e w' => e = .returned (.bool r) ∧ Below w.heap.size w w' := by
 have hu41 := Try.underlying41;have HB := A_ (Below.refl w.heap.size w);have H : (some (a0_0 == a1)) = some r := h;clear h;obtain rfl := Option.some.inj H
 go_enter Try.func86, Try.ntmps86
 go_wp2_with (first | ((with_reducible refine gd_ 2 rfl ?_); refine bx_ 2 #[.int .i64 a0_0, .int .i64 a0_1] 41 ?_; intro gb524 hg w3 hbox hb; have n0_ := A_ (below_step (bw HB.out) hb); have BKx := blk_below (g := gx) (o := .cells #[.int .i64 a1] 3 (0, 0)) hgx n0_.out; have hcx : w3.cell? ⟨gx, 0, none⟩ = some (.int .i64 a1) := (blk_cell BKx 0).trans rfl; have hfx := blk_frozen BKx 0; have n1_ := A_ (hbox); have n2_ := A_ ((szl_ w hg (bw HB.out))); have n3_ := n2_; replace HB := n0_; have BK524 := n1_; have GW524 := n2_; have GE524 := n3_; clear n0_ n1_ n2_ n3_; clear hb hbox hg; obtain ⟨hcz4_0, hcz4_1, hfz4_0, hfz4_1⟩ := cs2_ BK524.out))
 go_ret
 exact ⟨er, bw1 HB.out GE524.out⟩


end Go.Proofs.Ytemdjfiimgjiaaa.R
namespace Go.Proofs.Ytemdjfiimgjiaaa.R
open Go.Proofs.Ytemdjfiimgjiaaa.Sq
open Go.RowKit Go.Proofs.YtemdjfiimgjiaaaW.PrintWords Go.Proofs.YtemdjfiimgjiaaaW.PrintLast Go.Proofs.YtemdjfiimgjiaaaW.PrintMore
attribute [local go_sem] max2_int min2_int max_two min_two max_three min_three max_four min_four   -- for this text's walks alone
set_option linter.unusedVariables false
set_option linter.unusedSimpArgs false

def impl_Gone_F86c900001_102.l0 : Nat → List (S41) → Int → Int → Int → Option (Int)
 | 0, _, _, _, _ => none
 | k + 1, x0, x7, x8, x820 => if x8 < x7 then (if 0 ≤ x8 then (if x8 < (x0.length : Int) then ((impl_isRetired_1_c2.f ((rd_T41 x0 x8).f0) ((rd_T41 x0 x8).f1) x820).bind fun t525 => (if t525 = true then (some x8) else (impl_Gone_F86c900001_102.l0 k x0 x7 (wrap64 (x8 + 1)) x820))) else (none)) else (none)) else (some (-1))
def impl_Gone_F86c900001_102.f (k : Nat) (l0 : List (S41)) (a1_0 : Int) : Option (Int) := impl_Gone_F86c900001_102.l0 k l0 (l0.length : Int) 0 a1_0
set_option maxHeartbeats 8000000 in
set_option maxRecDepth 100000 in
theorem impl_Gone_F86c900001_102.calls (k : Nat) (A0 : Option Addr) (c0 : Nat) (l0 : List (S41)) (a1_0 : Int) (gx : Nat) (r : Int) (w : World) (hr0 : Kd.C k41 w A0 l0.length l0) (hc0 : l0.length ≤ c0) (hgx : w.heap[gx]? = some (.cells #[.int .i64 a1_0] 3 (0, 0))) (h : impl_Gone_F86c900001_102.f k l0 a1_0 = some r) :
  Calls Try.prog 102 #[.slice A0 l0.length c0, .func (.func 86) #[] #[(.pointer (some ⟨gx, 0, none⟩))]] w fun e w' => e = .returned (.int .i64 r) ∧ Below w.heap.size w w' := by
 have hu41 := Try.underlying41;have HR0 := A_ hr0;have HC0 := A_ hc0;clear hr0 hc0;have HB := A_ (Below.refl w.heap.size w);have H : (impl_Gone_F86c900001_102.l0 k l0 (l0.length : Int) 0 a1_0) = some r := h;clear h;have H' := A_ H;clear H
 go_enter Try.func102, Try.ntmps102
 go_wp2
 go_loopg [8] k (fun kq v8 w' => ∃ (x8_1 : Int), v8 = .int .i64 x8_1 ∧ Aside0 (impl_Gone_F86c900001_102.l0 kq l0 (l0.length : Int) x8_1 a1_0 = some r) ∧ Aside0 (kq ≤ k) ∧ Aside0 (Below w.heap.size w w'))
 case atStart => exact ⟨(0), re, H', ⟨Nat.le_refl _⟩, ⟨bw HB.out⟩⟩
 case round =>
  clear H';(try clear c1); (try clear p2)
  obtain ⟨x8_1, rfl, HA, HK1, HB⟩ := hrel;cases gk with
  | zero => exact absurd HA.out (by simp [impl_Gone_F86c900001_102.l0])
  | succ k1 =>
   have H := HA.out;clear HA;simp only [impl_Gone_F86c900001_102.l0] at H
   by_cases c3 : x8_1 < (l0.length : Int)
   ·rw [if_pos c3] at H
    have c3b0 : decide (x8_1 < (l0.length : Int)) = true := decide_eq_true c3;clear c3
    by_cases c4 : 0 ≤ x8_1
    ·rw [if_pos c4] at H
     have c4b0 : decide (0 ≤ x8_1) = true := decide_eq_true c4;clear c4
     by_cases c5 : x8_1 < (l0.length : Int)
     ·rw [if_pos c5] at H
      have c5b0 : decide (x8_1 < (l0.length : Int)) = true := decide_eq_true c5;clear c5;replace H := Option.bind_eq_some_iff.mp H;obtain ⟨t525, A60, H⟩ := H;have A6 := A_ A60;clear A60;have HC7 := A_ H;clear H;have p524 : 0 ≤ (x8_1 : Int) := oa;have q524 : x8_1 < (l0.length : Int) := oa;obtain ⟨ad524, e524, hx524_0, hx524_1⟩ := at_T41 HR0.out x8_1 p524 q524;cases e524;replace hx524_0 := (HB.out.cell (World.block_lt_of_cell? w _ hx524_0)).trans hx524_0;replace hx524_1 := (HB.out.cell (World.block_lt_of_cell? w _ hx524_1)).trans hx524_1;replace p524 := eq_true p524;replace q524 := eq_true q524
      go_upto_if 16 with (first | (go_at_call 86; (with_reducible refine (impl_isRetired_1_c2.calls ((rd_T41 l0 x8_1).f0) ((rd_T41 l0 x8_1).f1) a1_0 gx t525 _ (blk_below (g := gx) (o := .cells #[.int .i64 a1_0] 3 (0, 0)) hgx (bw HB.out)) A6.out).mono ?_); rintro e w8 ⟨rfl, hb⟩; replace HB := A_ (below_step (bw HB.out) hb); (try clear hb)))
      (try simp only [Act.put, sx_, sy_, sz_])
      have H := HC7.out;clear HC7
      by_cases c9 : t525 = true
      ·subst c9
       rw [if_pos rfl] at H;obtain rfl := Option.some.inj H;go_wp2
       go_ret
       exact ⟨er, bw HB.out⟩
      ·replace c9 := Bool.eq_false_iff.mpr c9
       subst c9;rw [if_neg (show ¬ (false = true) by decide)] at H;have H' := A_ H;clear H;go_wp2
       go_roundg k1
       case measure => have := HK1.out; omega
       case rel => exact ⟨(wrap64 (x8_1 + 1)), re, H', ⟨by have := HK1.out; omega⟩, ⟨bw HB.out⟩⟩
     ·rw [if_neg c5] at H
      exact absurd H (by simp)
    ·rw [if_neg c4] at H
     exact absurd H (by simp)
   ·rw [if_neg c3] at H
    have c3b0 : decide (x8_1 < (l0.length : Int)) = false := decide_eq_false c3;clear c3;obtain rfl := Option.some.inj H;go_wp2
    go_ret
    exact ⟨er, bw HB.out⟩

def impl_Gone_F86c900001.f (k : Nat) (l0 : List (S41)) (a1_0 : Int) : Option (Bool) := (impl_Gone_F86c900001_102.f k l0 a1_0).bind fun t524 => (some (decide (t524 ≥ 0)))
set_option maxHeartbeats 8000000 in
set_option maxRecDepth 100000 in
theorem impl_Gone_F86c900001.calls (k : Nat) (A0 : Option Addr) (c0 : Nat) (l0 : List (S41)) (a1_0 : Int) (gx : Nat) (r : Bool) (w : World) (hr0 : Kd.C k41 w A0 l0.length l0) (hc0 : l0.length ≤ c0) (hgx : w.heap[gx]? = some (.cells #[.int .i64 a1_0] 3 (0, 0))) (h : impl_Gone_F86c900001.f k l0 a1_0 = some r) :
  Calls Try.prog 85 #[.slice A0 l0.length c0, .func (.func 86) #[] #[(.pointer (some ⟨gx, 0, none⟩))]] w fun e w' => e = .returned (.bool r) ∧ Below w.heap.size w w' := by
 have HR0 := A_ hr0;have HC0 := A_ hc0;clear hr0 hc0;have HB := A_ (Below.refl w.heap.size w);have H : ((impl_Gone_F86c900001_102.f k l0 a1_0).bind fun t524 => (some (decide (t524 ≥ 0)))) = some r := h;clear h;replace H := Option.bind_eq_some_iff.mp H;obtain ⟨t524, A30, H⟩ := H;have A3 := A_ A30;clear A30;obtain rfl := Option.some.inj H
 go_enter Try.func85, Try.ntmps85
 go_wp2_with (first | ((with_reducible refine gk_ 102 rfl ?_); refine gL_ (some 7) Try.func102 #[.slice A0 l0.length c0, .func (.func 86) #[] #[(.pointer (some ⟨gx, 0, none⟩))]] ?_; (with_reducible refine (impl_Gone_F86c900001_102.calls k _ _ l0 a1_0 gx t524 _ ?side1 ?side2 (blk_below (g := gx) (o := .cells #[.int .i64 a1_0] 3 (0, 0)) hgx (bw HB.out)) A3.out).mono ?_); (case side1 => exact ck HR0.out); (case side2 => exact HC0.out); rintro e w4 ⟨rfl, hb⟩; refine ⟨_, rfl, ?_⟩; replace HB := A_ (below_step (bw HB.out) hb); (try clear hb)))
 go_ret
 exact ⟨er, bw HB.out⟩

def impl_isRetired.f (k : Nat) (l0 : List (S41)) (a1 : Int) : Option (Bool) := (impl_Gone_F86c900001.f k l0 a1).bind fun t524 => (some t524)
set_option maxHeartbeats 8000000 in
set_option maxRecDepth 100000 in
theorem impl_isRetired.calls (k : Nat) (A0 : Option Addr) (c0 : Nat) (l0 : List (S41)) (a1 : Int) (r : Bool) (w : World) (hr0 : Kd.C k41 w A0 l0.length l0) (hc0 : l0.length ≤ c0) (h : impl_isRetired.f k l0 a1 = some r) :
  Calls Try.prog 47 #[.slice A0 l0.length c0, .int .i64 a1] w fun e w' => e = .returned (.bool r) ∧ Below w.heap.size w w' := by
 have HR0 := A_ hr0;have HC0 := A_ hc0;clear hr0 hc0;have HB := A_ (Below.refl w.heap.size w);have H : ((impl_Gone_F86c900001.f k l0 a1).bind fun t524 => (some t524)) = some r := h;clear h;replace H := Option.bind_eq_some_iff.mp H;obtain ⟨t524, A30, H⟩ := H;have A3 := A_ A30;clear A30;obtain rfl := Option.some.inj H
 go_enter Try.func47, Try.ntmps47
 go_wp2_with (first | ((with_reducible refine gd_ 3 rfl ?_); refine bx_ 3 #[.int .i64 a1] 3 ?_; intro gx hg w900 hbox hb; have n0_ := A_ (below_step (bw HB.out) hb); have BKx := A_ hbox; replace HB := n0_; clear n0_; clear hb hbox hg) | ((with_reducible refine gk_ 85 rfl ?_); refine gL_ (some 7) Try.func85 #[.slice A0 l0.length c0, .func (.func 86) #[] #[(.pointer (some ⟨gx, 0, none⟩))]] ?_; (with_reducible refine (impl_Gone_F86c900001.calls k _ _ l0 a1 gx t524 _ ?side1 ?side2 ?sidex A3.out).mono ?_); (case sidex => exact BKx.out); (case side1 => repeat (first | exact (Kd.C_below HR0.out HB.out) | exact HR0.out | (with_reducible refine Kd.C_alloc ?_ _) | (with_reducible refine Kd.C_drewN ?_ _) | (with_reducible refine Kd.C_drew ?_))); (case side2 => exact HC0.out); rintro e w4 ⟨rfl, hb⟩; refine ⟨_, rfl, ?_⟩; replace HB := A_ (below_step (bw HB.out) hb); (try clear hb)))
 go_ret
 exact ⟨er, bw HB.out⟩

def impl_YardOk_1_c2.f (a0 : Int) (a1 : Int) : Option (Bool) := (impl_in.f a0 (-1) a1).bind fun t525 => (some (!t525))
set_option maxHeartbeats 8000000 in
set_option maxRecDepth 100000 in
theorem impl_YardOk_1_c2.calls (a0 : Int) (a1 : Int) (gx : Nat) (cv0 cv1 cv2 cv3 : Value) (r : Bool) (w : World) (hgx : w.heap[gx]? = some (.cells #[cv0, cv1, cv2, cv3, .int .i64 a1] 30 (0, 0))) (h : impl_YardOk_1_c2.f a0 a1 = some r) :
  Calls Try.prog 46 #[.int .i64 a0, .pointer (some ⟨gx, 0, none⟩)] w fun e w' => e = .returned (.bool r) ∧ Drawn0 w w' := by
 have H : ((impl_in.f a0 (-1) a1).bind fun t525 => (some (!t525))) = some r := h;clear h;replace H := Option.bind_eq_some_iff.mp H;obtain ⟨t525, A30, H⟩ := H;have A3 := A_ A30;clear A30;obtain rfl := Option.some.inj H;have hcx : w.cell? ⟨gx, 4, none⟩ = some (.int .i64 a1) := (blk_cell hgx 4).trans rfl;have hfx := blk_frozen hgx 4;have hu30 := Try.underlying30
 go_enter Try.func46, Try.ntmps46
 go_wp2_with (first | ((with_reducible refine gk_ 44 rfl ?_); refine gL_ (some 7) Try.func44 #[.int .i64 a0, .int .i64 (-1), .int .i64 a1] ?_; (with_reducible refine (impl_in.calls a0 (-1) a1 t525 _ A3.out).mono ?_); rintro e w' ⟨rfl, ⟨nd, rfl⟩⟩; refine ⟨_, rfl, ?_⟩))
 go_ret
 exact ⟨by first | rfl | (simp; done) | (simp [*]; done), dw⟩

def slices_IndexFunc_int_int_F46c900002.l0 : Nat → List Int → Int → Int → Int → Option (Int)
 | 0, _, _, _, _ => none
 | k + 1, x0, x7, x8, x820 => if x8 < x7 then (if 0 ≤ x8 then (if x8 < (x0.length : Int) then ((impl_YardOk_1_c2.f (rd x0 x8) x820).bind fun t527 => (if t527 = true then (some x8) else (slices_IndexFunc_int_int_F46c900002.l0 k x0 x7 (wrap64 (x8 + 1)) x820))) else (none)) else (none)) else (some (-1))
def slices_IndexFunc_int_int_F46c900002.f (k : Nat) (l0 : List Int) (a1_0 : Int) : Option (Int) := slices_IndexFunc_int_int_F46c900002.l0 k l0 (l0.length : Int) 0 a1_0
set_option maxHeartbeats 8000000 in
set_option maxRecDepth 100000 in
theorem slices_IndexFunc_int_int_F46c900002.calls (k : Nat) (A0 : Option Addr) (c0 : Nat) (l0 : List Int) (a1_0 : Int) (gx : Nat) (cv0 cv1 cv2 cv3 : Value) (r : Int) (w : World) (hr0 : Kd.C (Kd.int .i64) w A0 l0.length l0) (hc0 : l0.length ≤ c0) (hgx : w.heap[gx]? = some (.cells #[cv0, cv1, cv2, cv3, .int .i64 a1_0] 30 (0, 0))) (h : slices_IndexFunc_int_int_F46c900002.f k l0 a1_0 = some r) :
  Calls Try.prog 84 #[.slice A0 l0.length c0, .func (.func 46) #[] #[(.pointer (some ⟨gx, 0, none⟩))]] w fun e w' => e = .returned (.int .i64 r) ∧ Drawn0 w w' := by
 have HR0 := A_ hr0;have HC0 := A_ hc0;clear hr0 hc0;have H : (slices_IndexFunc_int_int_F46c900002.l0 k l0 (l0.length : Int) 0 a1_0) = some r := h;clear h;have H' := A_ H;clear H
 go_enter Try.func84, Try.ntmps84
 go_wp2
 go_loopg [8] k (fun kq v8 w' => ∃ (x8_1 : Int), v8 = .int .i64 x8_1 ∧ Aside0 (slices_IndexFunc_int_int_F46c900002.l0 kq l0 (l0.length : Int) x8_1 a1_0 = some r) ∧ Aside0 (kq ≤ k) ∧ Drawn0 w w')
 case atStart => exact ⟨(0), re, H', ⟨Nat.le_refl _⟩, dw⟩
 case round =>
  clear H'
  try clear p2
  obtain ⟨x8_1, rfl, HA, HK1, ⟨m1, rfl⟩⟩ := hrel;cases gk with
  | zero => exact absurd HA.out (by simp [slices_IndexFunc_int_int_F46c900002.l0])
  | succ k1 =>
   have H := HA.out;clear HA;simp only [slices_IndexFunc_int_int_F46c900002.l0] at H
   by_cases c3 : x8_1 < (l0.length : Int)
   ·rw [if_pos c3] at H
    have c3b0 : decide (x8_1 < (l0.length : Int)) = true := decide_eq_true c3;clear c3
    by_cases c4 : 0 ≤ x8_1
    ·rw [if_pos c4] at H
     have c4b0 : decide (0 ≤ x8_1) = true := decide_eq_true c4;clear c4
     by_cases c5 : x8_1 < (l0.length : Int)
     ·rw [if_pos c5] at H
      have c5b0 : decide (x8_1 < (l0.length : Int)) = true := decide_eq_true c5;clear c5;replace H := Option.bind_eq_some_iff.mp H;obtain ⟨t527, A60, H⟩ := H;have A6 := A_ A60;clear A60;have HC7 := A_ H;clear H;have p526 : 0 ≤ (x8_1 : Int) := oa;have q526 : x8_1 < (l0.length : Int) := oa;obtain ⟨ad526, e526, hx526_0⟩ := Kd.at_int HR0.out x8_1 p526 q526;cases e526;replace p526 := eq_true p526;replace q526 := eq_true q526
      go_upto_if 16 with (first | (go_at_call 46; (with_reducible refine (impl_YardOk_1_c2.calls (rd l0 x8_1) a1_0 gx cv0 cv1 cv2 cv3 t527 _ (bk hgx) A6.out).mono ?_); rintro e w' ⟨rfl, ⟨nd, rfl⟩⟩))
      (try simp only [Act.put, sx_, sy_, sz_])
      have H := HC7.out;clear HC7
      by_cases c8 : t527 = true
      ·subst c8
       rw [if_pos rfl] at H;obtain rfl := Option.some.inj H;go_wp2
       go_ret
       exact ⟨by first | rfl | (simp; done) | (simp [*]; done), dw⟩
      ·replace c8 := Bool.eq_false_iff.mpr c8
       subst c8;rw [if_neg (show ¬ (false = true) by decide)] at H;have H' := A_ H;clear H;go_wp2
       go_roundg k1
       case measure => have := HK1.out; omega
       case rel => exact ⟨(wrap64 (x8_1 + 1)), re, H', ⟨by have := HK1.out; omega⟩, dw⟩
     ·rw [if_neg c5] at H
      exact absurd H (by simp)
    ·rw [if_neg c4] at H
     exact absurd H (by simp)
   ·rw [if_neg c3] at H
    have c3b0 : decide (x8_1 < (l0.length : Int)) = false := decide_eq_false c3;clear c3;obtain rfl := Option.some.inj H;go_wp2
    go_ret
    exact ⟨by first | rfl | (simp; done) | (simp [*]; done), dw⟩

def slices_ContainsFunc_int_int_F46c900002.f (k : Nat) (l0 : List Int) (a1_0 : Int) : Option (Bool) := (slices_IndexFunc_int_int_F46c900002.f k l0 a1_0).bind fun t528 => (some (decide (t528 ≥ 0)))
set_option maxHeartbeats 8000000 in
set_option maxRecDepth 100000 in
theorem slices_ContainsFunc_int_int_F46c900002.calls (k : Nat) (A0 : Option Addr) (c0 : Nat) (l0 : List Int) (a1_0 : Int) (gx : Nat) (cv0 cv1 cv2 cv3 : Value) (r : Bool) (w : World) (hr0 : Kd.C (Kd.int .i64) w A0 l0.length l0) (hc0 : l0.length ≤ c0) (hgx : w.heap[gx]? = some (.cells #[cv0, cv1, cv2, cv3, .int .i64 a1_0] 30 (0, 0))) (h : slices_ContainsFunc_int_int_F46c900002.f k l0 a1_0 = some r) :
  Calls Try.prog 45 #[.slice A0 l0.length c0, .func (.func 46) #[] #[(.pointer (some ⟨gx, 0, none⟩))]] w fun e w' => e = .returned (.bool r) ∧ Drawn0 w w' := by
 have HR0 := A_ hr0;have HC0 := A_ hc0;clear hr0 hc0;have H : ((slices_IndexFunc_int_int_F46c900002.f k l0 a1_0).bind fun t528 => (some (decide (t528 ≥ 0)))) = some r := h;clear h;replace H := Option.bind_eq_some_iff.mp H;obtain ⟨t528, A30, H⟩ := H;have A3 := A_ A30;clear A30;obtain rfl := Option.some.inj H
 go_enter Try.func45, Try.ntmps45
 go_wp2_with (first | ((with_reducible refine gk_ 84 rfl ?_); refine gL_ (some 7) Try.func84 #[.slice A0 l0.length c0, .func (.func 46) #[] #[(.pointer (some ⟨gx, 0, none⟩))]] ?_; (with_reducible refine (slices_IndexFunc_int_int_F46c900002.calls k _ _ l0 a1_0 gx cv0 cv1 cv2 cv3 t528 _ ?side1 ?side2 (bk hgx) A3.out).mono ?_); (case side1 => exact ck HR0.out); (case side2 => exact HC0.out); rintro e w' ⟨rfl, ⟨nd, rfl⟩⟩; refine ⟨_, rfl, ?_⟩))
 go_ret
 exact ⟨by first | rfl | (simp; done) | (simp [*]; done), dw⟩


end Go.Proofs.Ytemdjfiimgjiaaa.R
namespace Go.Proofs.Ytemdjfiimgjiaaa.R
open Go.Proofs.Ytemdjfiimgjiaaa.Sq
open Go.RowKit Go.Proofs.YtemdjfiimgjiaaaW.PrintWords Go.Proofs.YtemdjfiimgjiaaaW.PrintLast Go.Proofs.YtemdjfiimgjiaaaW.PrintMore
attribute [local go_sem] max2_int min2_int max_two min_two max_three min_three max_four min_four   -- for this text's walks alone
set_option linter.unusedVariables false
set_option linter.unusedSimpArgs false

mutual
def impl_YardOk.j0 : Nat → Bool → List (S77) → List Int → List Int → List (S41) → Int → Option (Bool)
 | 0, _, _, _, _, _, _ => none
 | k + 1, x28, x530000, x530001, x530002, x530003, x530004 => if x28 = true then (some false) else ((slices_ContainsFunc_int_int_F46c900002.f k x530002 x530004).bind fun t533 => (if t533 = true then (some false) else (impl_YardOk.l0 k 0 x530003 (x530003.length : Int) 0 x530000 x530001 x530002 x530003 x530004)))
def impl_YardOk.l0 : Nat → Int → List (S41) → Int → Int → List (S77) → List Int → List Int → List (S41) → Int → Option (Bool)
 | 0, _, _, _, _, _, _, _, _, _ => none
 | k + 1, x3, x34, x35, x36, x530000, x530001, x530002, x530003, x530004 => if x36 < x35 then (if 0 ≤ x36 then (if x36 < (x34.length : Int) then ((impl_in.f ((rd_T41 x34 x36).f1) x3 x530004).bind fun t536 => (if t536 = true then ((impl_Live.f k x530000 x530001 ((rd_T41 x34 x36).f0)).bind fun t537 => (if t537 = true then (if x36 ≤ (x530003.length : Int) then ((impl_isRetired.f k (x530003.take (x36 : Int).toNat) ((rd_T41 x34 x36).f0)).bind fun t542 => (if t542 = true then (some false) else (impl_YardOk.l0 k ((rd_T41 x34 x36).f1) x34 x35 (wrap64 (x36 + 1)) x530000 x530001 x530002 x530003 x530004))) else (none)) else (some false))) else (some false))) else (none)) else (none)) else (some true)
end
def impl_YardOk.f (k : Nat) (l0_0 : List (S77)) (l0_1 : List Int) (l0_2 : List Int) (l0_3 : List (S41)) (a0_4 : Int) : Option (Bool) := (impl_ArenaOk.f k l0_0 l0_1).bind fun t530 => (if t530 = true then ((impl_in.f (l0_2.length : Int) 1 6).bind fun t531 => (if t531 = true then ((impl_in.f a0_4 0 1000000).bind fun t532 => (if t532 = true then (impl_YardOk.j0 k (decide ((l0_3.length : Int) > 24)) l0_0 l0_1 l0_2 l0_3 a0_4) else (impl_YardOk.j0 k true l0_0 l0_1 l0_2 l0_3 a0_4))) else (impl_YardOk.j0 k true l0_0 l0_1 l0_2 l0_3 a0_4))) else (none))
def impl_YardOk.T9 : Bool × List (List Nat × List Nat) := (true, [([], []), ([0], [0]), ([], []), ([], []), ([3], [3]), ([1, 2, 4], [1, 2, 4]), ([5], [5]), ([6, 5], [6]), ([7], [7]), ([8, 7], [7, 8]), ([7], [7]), ([10, 7], [7, 10]), ([9, 11, 7, 7], [7, 9, 11]), ([12, 7], [7, 12]), ([7, 13], [7, 13]), ([14, 12], [14]), ([15], [15]), ([16, 15], [15, 16]), ([15], [15]), ([17, 18, 15], [15, 17, 18]), ([15], [15]), ([20, 15], [15, 20]), ([19, 21, 15, 15], [15, 19, 21]), ([15, 22], [15, 22])])
def impl_YardOk.B9 : List Nat := [0, 1, 0, 0, 8, 31, 63, 127, 255, 511, 255, 1279, 4095, 8191, 16383, 32767, 65535, 131071, 65535, 524287, 65535, 1114111, 4194303, 8388607]
theorem impl_YardOk.tab9 : rtab .any (opsOf Try.f16 9) = impl_YardOk.T9 := by kernel_rfl
theorem impl_YardOk.bits9 : waitsOk impl_YardOk.T9.2 impl_YardOk.B9 = true := by kernel_rfl
set_option maxHeartbeats 8000000 in
set_option maxRecDepth 100000 in
theorem impl_YardOk.calls (k : Nat) (A0_0 : Option Addr) (c0_0 : Nat) (l0_0 : List (S77)) (A0_1 : Option Addr) (c0_1 : Nat) (l0_1 : List Int) (A0_2 : Option Addr) (c0_2 : Nat) (l0_2 : List Int) (A0_3 : Option Addr) (c0_3 : Nat) (l0_3 : List (S41)) (a0_4 : Int) (r : Bool) (w : World) (hr0_0 : Kd.C k77 w A0_0 l0_0.length l0_0) (hc0_0 : l0_0.length ≤ c0_0) (hr0_1 : Kd.C (Kd.int .i64) w A0_1 l0_1.length l0_1) (hc0_1 : l0_1.length ≤ c0_1) (hr0_2 : Kd.C (Kd.int .i64) w A0_2 l0_2.length l0_2) (hc0_2 : l0_2.length ≤ c0_2) (hr0_3 : Kd.C k41 w A0_3 l0_3.length l0_3) (hc0_3 : l0_3.length ≤ c0_3) (h : impl_YardOk.f k l0_0 l0_1 l0_2 l0_3 a0_4 = some r) (ht_ : r = true := by rfl) :
  Calls Try.prog 16 #[.agg #[.slice A0_0 l0_0.length c0_0, .slice A0_1 l0_1.length c0_1, .slice A0_2 l0_2.length c0_2, .slice A0_3 l0_3.length c0_3, .int .i64 a0_4]] w fun e w' => e = .returned (.bool r) ∧ Below w.heap.size w w' := by
 subst ht_;have hu30 := Try.underlying30;have hu27 := Try.underlying27;have hu41 := Try.underlying41;have HR0_0 := A_ hr0_0;have HC0_0 := A_ hc0_0;clear hr0_0 hc0_0;have HR0_1 := A_ hr0_1;have HC0_1 := A_ hc0_1;clear hr0_1 hc0_1;have HR0_2 := A_ hr0_2;have HC0_2 := A_ hc0_2;clear hr0_2 hc0_2;have HR0_3 := A_ hr0_3;have HC0_3 := A_ hc0_3;clear hr0_3 hc0_3;have HB := A_ (Below.refl w.heap.size w);have H : ((impl_ArenaOk.f k l0_0 l0_1).bind fun t530 => (if t530 = true then ((impl_in.f (l0_2.length : Int) 1 6).bind fun t531 => (if t531 = true then ((impl_in.f a0_4 0 1000000).bind fun t532 => (if t532 = true then (impl_YardOk.j0 k (decide ((l0_3.length : Int) > 24)) l0_0 l0_1 l0_2 l0_3 a0_4) else (impl_YardOk.j0 k true l0_0 l0_1 l0_2 l0_3 a0_4))) else (impl_YardOk.j0 k true l0_0 l0_1 l0_2 l0_3 a0_4))) else (none))) = some true := h;clear h;have HC2 := A_ H;clear H
 go_enter Try.func16, Try.ntmps16
 go_upto_region 1 with (first | ((with_reducible refine gd_ 1 rfl ?_); (try (refine gate_guard (by rfl) ?_; dsimp only)); refine bx_ 1 #[.slice A0_0 l0_0.length c0_0, .slice A0_1 l0_1.length c0_1, .slice A0_2 l0_2.length c0_2, .slice A0_3 l0_3.length c0_3, .int .i64 a0_4] 30 ?_; intro gb529 hg w3 hbox hb; have BK529 := A_ (hbox); have GW529 := A_ ((szl_ w hg (bw HB.out))); replace HB := A_ (below_step (bw HB.out) hb); have GE529 := GW529; clear hb hbox hg))
 (try simp only [Act.put, sx_, sy_, sz_])
 go_cut [28] (fun v28 wc => ∃ (kq : Nat) (x28_1 : Bool), v28 = .bool x28_1 ∧ Aside0 (impl_YardOk.j0 kq x28_1 l0_0 l0_1 l0_2 l0_3 a0_4 = some true) ∧ Aside0 (kq ≤ k) ∧ Aside0 (wc.heap[gb529]? = some (.cells #[(.slice A0_0 l0_0.length c0_0), (.slice A0_1 l0_1.length c0_1), (.slice A0_2 l0_2.length c0_2), (.slice A0_3 l0_3.length c0_3), .int .i64 a0_4] 30 (0, 0))) ∧ Aside0 (Below w.heap.size w wc))
 case first =>
  have H := HC2.out;clear HC2;replace H := Option.bind_eq_some_iff.mp H;obtain ⟨t530, A40, H⟩ := H;have A4 := A_ A40;clear A40
  by_cases c5 : t530 = true
  ·subst c5
   rw [if_pos rfl] at H;replace H := Option.bind_eq_some_iff.mp H;obtain ⟨t531, A60, H⟩ := H;have A6 := A_ A60;clear A60
   by_cases c7 : t531 = true
   ·subst c7
    rw [if_pos rfl] at H;replace H := Option.bind_eq_some_iff.mp H;obtain ⟨t532, A80, H⟩ := H;have A8 := A_ A80;clear A80
    by_cases c9 : t532 = true
    ·subst c9
     rw [if_pos rfl] at H;have H' := A_ H;clear H;obtain ⟨hcz10_0, hcz10_1, hcz10_2, hcz10_3, hcz10_4, hfz10_0, hfz10_1, hfz10_2, hfz10_3, hfz10_4⟩ := cs5_ BK529.out
     go_wp2_with (first | ((with_reducible refine gk_ 43 rfl ?_); refine gL_ (some 8) Try.func43 #[.agg #[.slice A0_0 l0_0.length c0_0, .slice A0_1 l0_1.length c0_1]] ?_; (with_reducible refine (impl_ArenaOk.calls k _ _ l0_0 _ _ l0_1 true _ ?side1 ?side2 ?side3 ?side4 A4.out).mono ?_); (case side1 => exact ck (Kd.C_below HR0_0.out HB.out)); (case side2 => exact HC0_0.out); (case side3 => exact ck (Kd.C_below HR0_1.out HB.out)); (case side4 => exact HC0_1.out); rintro e w11 ⟨rfl, hb⟩; refine ⟨_, rfl, ?_⟩; replace BK529 := A_ (bB BK529.out hb); replace HB := A_ (below_step (bw1 HB.out GE529.out) hb); (try clear hb); obtain ⟨hcz12_0, hcz12_1, hcz12_2, hcz12_3, hcz12_4, hfz12_0, hfz12_1, hfz12_2, hfz12_3, hfz12_4⟩ := cs5_ BK529.out) | (go_at_call 44; (with_reducible refine (impl_in.calls (l0_2.length : Int) 1 6 true _ A6.out).mono ?_); rintro e w' ⟨rfl, ⟨nd, rfl⟩⟩) | (go_at_call 44; (with_reducible refine (impl_in.calls a0_4 0 1000000 true _ A8.out).mono ?_); rintro e w' ⟨rfl, ⟨nd, rfl⟩⟩))
     go_meet
     case rel => exact ⟨_, (decide ((l0_3.length : Int) > 24)), re, H', ⟨by first | omega | exact Nat.le_refl _⟩, ⟨bk BK529.out⟩, ⟨bw1 HB.out GE529.out⟩⟩
    ·replace c9 := Bool.eq_false_iff.mpr c9
     subst c9;rw [if_neg (show ¬ (false = true) by decide)] at H;exact absurd H (by cases k <;> first | (simp [impl_YardOk.j0]; done) | ((repeat' split) <;> simp_all [impl_YardOk.j0]))
   ·replace c7 := Bool.eq_false_iff.mpr c7
    subst c7;rw [if_neg (show ¬ (false = true) by decide)] at H;exact absurd H (by cases k <;> first | (simp [impl_YardOk.j0]; done) | ((repeat' split) <;> simp_all [impl_YardOk.j0]))
  ·replace c5 := Bool.eq_false_iff.mpr c5
   subst c5;rw [if_neg (show ¬ (false = true) by decide)] at H;exact absurd H (by simp)
 case rest =>
  clear HC2;(try clear c1); (try clear p2); (try clear c4); (try clear c5); (try clear c7); (try clear c9); (try clear hcz10_0 hcz10_1 hcz10_2 hcz10_3 hcz10_4); (try clear hcz12_0 hcz12_1 hcz12_2 hcz12_3 hcz12_4); (try clear hfz10_0 hfz10_1 hfz10_2 hfz10_3 hfz10_4); (try clear hfz12_0 hfz12_1 hfz12_2 hfz12_3 hfz12_4)
  obtain ⟨kq, x28_1, rfl, HA, HJ1, BK529, HB⟩ := hcut;cases kq with
  | zero => exact absurd HA.out (by simp [impl_YardOk.j0])
  | succ kj1 =>
   have H := HA.out;clear HA;simp only [impl_YardOk.j0] at H
   by_cases c13 : x28_1 = true
   ·subst c13
    rw [if_pos rfl] at H;exact absurd H (by first | (simp; done) | ((repeat' split) <;> simp))
   ·replace c13 := Bool.eq_false_iff.mpr c13
    subst c13;rw [if_neg (show ¬ (false = true) by decide)] at H;replace H := Option.bind_eq_some_iff.mp H;obtain ⟨t533, A140, H⟩ := H;have A14 := A_ A140;clear A140
    by_cases c15 : t533 = true
    ·subst c15
     rw [if_pos rfl] at H;exact absurd H (by first | (simp; done) | ((repeat' split) <;> simp))
    ·replace c15 := Bool.eq_false_iff.mpr c15
     subst c15;rw [if_neg (show ¬ (false = true) by decide)] at H;have H' := A_ H;clear H;obtain ⟨hcz16_0, hcz16_1, hcz16_2, hcz16_3, hcz16_4, hfz16_0, hfz16_1, hfz16_2, hfz16_3, hfz16_4⟩ := cs5_ BK529.out
     go_wp2_with (first | ((with_reducible refine gk_ 45 rfl ?_); refine gL_ (some 32) Try.func45 #[.slice A0_2 l0_2.length c0_2, .func (.func 46) #[] #[(.pointer (some ⟨gb529, 0, none⟩))]] ?_; (with_reducible refine (slices_ContainsFunc_int_int_F46c900002.calls kj1 _ _ l0_2 a0_4 gb529 _ _ _ _ false _ ?side1 ?side2 (bk BK529.out) A14.out).mono ?_); (case side1 => exact ck (Kd.C_below HR0_2.out HB.out)); (case side2 => exact HC0_2.out); rintro e w' ⟨rfl, ⟨nd, rfl⟩⟩; refine ⟨_, rfl, ?_⟩))
     go_loopg [3, 36] kj1 (fun kq v3 v36 w' => ∃ (x3_2 : Int) (x36_2 : Int), v3 = .int .i64 x3_2 ∧ v36 = .int .i64 x36_2 ∧ Aside0 (impl_YardOk.l0 kq x3_2 l0_3 (l0_3.length : Int) x36_2 l0_0 l0_1 l0_2 l0_3 a0_4 = some true) ∧ Aside0 (kq ≤ kj1) ∧ Aside0 (w'.heap[gb529]? = some (.cells #[(.slice A0_0 l0_0.length c0_0), (.slice A0_1 l0_1.length c0_1), (.slice A0_2 l0_2.length c0_2), (.slice A0_3 l0_3.length c0_3), .int .i64 a0_4] 30 (0, 0))) ∧ Aside0 (Below w.heap.size w w'))
     case atStart => exact ⟨(0), (0), re, re, H', ⟨Nat.le_refl _⟩, ⟨bk BK529.out⟩, ⟨bw1 HB.out GE529.out⟩⟩
     case round =>
      clear H';(try clear c1); (try clear p2); (try clear c4); (try clear c5); (try clear c7); (try clear c9); (try clear c13); (try clear c15); (try clear c16); (try clear hcz10_0 hcz10_1 hcz10_2 hcz10_3 hcz10_4); (try clear hcz12_0 hcz12_1 hcz12_2 hcz12_3 hcz12_4); (try clear hcz16_0 hcz16_1 hcz16_2 hcz16_3 hcz16_4); (try clear hfz10_0 hfz10_1 hfz10_2 hfz10_3 hfz10_4); (try clear hfz12_0 hfz12_1 hfz12_2 hfz12_3 hfz12_4); (try clear hfz16_0 hfz16_1 hfz16_2 hfz16_3 hfz16_4); (try clear p2)
      obtain ⟨x3_2, x36_2, rfl, rfl, HA, HK2, BK529, HB⟩ := hrel;cases gk with
      | zero => exact absurd HA.out (by simp [impl_YardOk.l0])
      | succ k2 =>
       have H := HA.out;clear HA;simp only [impl_YardOk.l0] at H
       by_cases c17 : x36_2 < (l0_3.length : Int)
       ·rw [if_pos c17] at H
        have c17b0 : decide (x36_2 < (l0_3.length : Int)) = true := decide_eq_true c17;clear c17
        by_cases c18 : 0 ≤ x36_2
        ·rw [if_pos c18] at H
         have c18b0 : decide (0 ≤ x36_2) = true := decide_eq_true c18;clear c18
         by_cases c19 : x36_2 < (l0_3.length : Int)
         ·rw [if_pos c19] at H
          have c19b0 : decide (x36_2 < (l0_3.length : Int)) = true := decide_eq_true c19;clear c19;replace H := Option.bind_eq_some_iff.mp H;obtain ⟨t536, A200, H⟩ := H;have A20 := A_ A200;clear A200
          by_cases c21 : t536 = true
          ·subst c21
           rw [if_pos rfl] at H;replace H := Option.bind_eq_some_iff.mp H;obtain ⟨t537, A220, H⟩ := H;have A22 := A_ A220;clear A220
           by_cases c23 : t537 = true
           ·subst c23
            rw [if_pos rfl] at H;have c24b0 := eq_true (oa : 0 ≤ x36_2)
            by_cases c25 : x36_2 ≤ (l0_3.length : Int)
            ·rw [if_pos c25] at H
             have c25b0 := eq_true c25;have c25b1 : decide (x36_2 ≤ (l0_3.length : Int)) = true := decide_eq_true c25;clear c25;obtain ⟨y538, hy538⟩ : ∃ y_ : List (S41), y_ = (l0_3.take (x36_2 : Int).toNat) := ⟨_, rfl⟩;replace H : ((impl_isRetired.f k2 y538 ((rd_T41 l0_3 x36_2).f0)).bind fun t542 => (if t542 = true then (some false) else (impl_YardOk.l0 k2 ((rd_T41 l0_3 x36_2).f1) l0_3 (l0_3.length : Int) (wrap64 (x36_2 + 1)) l0_0 l0_1 l0_2 l0_3 a0_4))) = some true := by first | (rw [hy538]; with_reducible exact H) | (have H2_ := (Option.bind_some _ _).symm.trans H; rw [hy538]; with_reducible exact H2_) | (have H2_ := (Option.bind_some _ _).symm.trans H; with_reducible exact H2_) | with_reducible exact H | (rw [hy538]; exact H) | exact H
             have Ny538 := A_ hy538;clear hy538;replace H := Option.bind_eq_some_iff.mp H;obtain ⟨t542, A260, H⟩ := H;have A26 := A_ A260;clear A260
             by_cases c27 : t542 = true
             ·subst c27
              rw [if_pos rfl] at H;exact absurd H (by first | (simp; done) | ((repeat' split) <;> simp))
             ·replace c27 := Bool.eq_false_iff.mpr c27
              subst c27;rw [if_neg (show ¬ (false = true) by decide)] at H;have H' := A_ H;clear H;have p534 : 0 ≤ (x36_2 : Int) := oa;have q534 : x36_2 < (l0_3.length : Int) := oa;obtain ⟨ad534, e534, hx534_0, hx534_1⟩ := at_T41 HR0_3.out x36_2 p534 q534;cases e534;replace hx534_0 := (HB.out.cell (World.block_lt_of_cell? w _ hx534_0)).trans hx534_0;replace hx534_1 := (HB.out.cell (World.block_lt_of_cell? w _ hx534_1)).trans hx534_1;replace p534 := eq_true p534;replace q534 := eq_true q534
              try go_wp2_with (first | ((with_reducible refine gd_ 5 rfl ?_); (try (refine gate_guard (by rfl) ?_; dsimp only)); refine bx_ 5 #[.int .i64 0, .int .i64 0] 41 ?_; intro gb535 hg w28 hbox hb; have BK535 := A_ (hbox); have GW535 := A_ ((szl_ w hg (bw1 HB.out GE529.out))); replace HB := A_ (below_step (bw1 HB.out GE529.out) hb); have GE535 := GW535; have NB529_535 := A_ ((nl_ hg (bL BK529.out))); have NB535_529 := A_ ((ng_ hg (bL BK529.out))); replace BK529 := A_ (bB BK529.out hb); clear hb hbox hg; have hnb29 := NB535_529.out; have hnc29 := NB529_535.out; obtain ⟨hcz30_0, hcz30_1, hfz30_0, hfz30_1⟩ := cs2_ BK535.out) | ((with_reducible refine gate_store (t := 41) (p := 5) rfl ?_); refine store_event (t := 41) (p := 5) (v := ?vo_w31) (w1 := ((w28.setCell ⟨gb535, 0, none⟩ (.int .i64 ((rd_T41 l0_3 x36_2).f0))).setCell ⟨gb535, 1, none⟩ (.int .i64 ((rd_T41 l0_3 x36_2).f1)))) ?hg ?ho ?hn ?hr ?_; (case ho => rfl); (case hg => rfl); (case hn => rfl); (case hr => first | (go_simp; done) | (go_simp; rfl)); intro w31 hw; replace BK529 : Aside0 (w31.heap[gb529]? = some (.cells #[.slice A0_0 l0_0.length c0_0, .slice A0_1 l0_1.length c0_1, .slice A0_2 l0_2.length c0_2, .slice (some ad534) l0_3.length c0_3, .int .i64 a0_4] 30 (0, 0))) := ⟨(by rw [hw]; exact (bf1 BK529.out NB529_535.out))⟩; replace BK535 : Aside0 (w31.heap[gb535]? = some (.cells #[.int .i64 ((rd_T41 l0_3 x36_2).f0), .int .i64 ((rd_T41 l0_3 x36_2).f1)] 41 (0, 0))) := ⟨(by rw [hw]; exact (bp BK535.out))⟩; replace HB : Aside0 (Below w.heap.size w w31) := ⟨(by rw [hw]; exact (bw2 HB.out GE529.out GE535.out))⟩; clear hw))
              replace BK529 := A_ (blk_drew BK529.out);replace BK535 := A_ (blk_drew BK535.out);replace HB := A_ (below_drew1 HB.out);refine start_ (n := 24) (S := fun w' => w'.cell? ⟨gb535, 0, none⟩ = some (.int .i64 ((rd_T41 l0_3 x36_2).f0)) ∧ w'.cell? ⟨gb535, 1, none⟩ = some (.int .i64 ((rd_T41 l0_3 x36_2).f1)) ∧ w'.cell? ⟨gb529, 0, none⟩ = some (.slice A0_0 l0_0.length c0_0) ∧ w'.cell? ⟨gb529, 1, none⟩ = some (.slice A0_1 l0_1.length c0_1) ∧ w'.cell? ⟨gb529, 2, none⟩ = some (.slice A0_2 l0_2.length c0_2) ∧ w'.cell? ⟨gb529, 3, none⟩ = some (.slice (some ad534) l0_3.length c0_3) ∧ w'.cell? ⟨gb529, 4, none⟩ = some (.int .i64 a0_4)) (ds := []) (tb 24 0) (by kernel_rfl) rfl rfl ⟨bc BK535.out 0, bc BK535.out 1, bc BK529.out 0, bc BK529.out 1, bc BK529.out 2, bc BK529.out 3, bc BK529.out 4⟩ (fun hHeld => ?_); refine with_tabW impl_YardOk.tab9 impl_YardOk.bits9 (fun HT_ HW_ => ?_);generalize w31.drew = w32 at BK529 BK535 HB hHeld ⊢;refine pu_ 0 41 (tb 24 1) HT_.out rfl rfl ?_;refine pu_ 2 43 (tb 24 5) HT_.out rfl rfl ?_;refine pu_ 3 44 (tb 24 13) HT_.out rfl rfl ?_;refine tk_ (v := ?_) (a' := ?_) 1 42 (tb 24 15) HT_.out HW_.out rfl rfl hHeld ?_ ?_ ?_;rotate_left;(rintro w' ⟨s0, s1, s2, s3, s4, s5, s6⟩;go_simp;with_reducible rfl);rotate_left;(simp only [Act.put, sx_, sy_, sz_, i64_w, i32_w];rfl);refine tk_ (v := ?_) (a' := ?_) 4 45 (tb 24 31) HT_.out HW_.out rfl rfl hHeld ?_ ?_ ?_;rotate_left;(rintro w' ⟨s0, s1, s2, s3, s4, s5, s6⟩;go_simp;with_reducible rfl);rotate_left;(simp only [Act.put, sx_, sy_, sz_, i64_w, i32_w];rfl);refine one_ (i := 5) (N := some 46) (tb 24 63) rfl rfl (one_of HT_.out (by kernel_rfl)) (by decide) (fun K hK => ?_);refine goes_ Try.func44 (by kernel_rfl) rfl #[.int .i64 ((rd_T41 l0_3 x36_2).f1), .int .i64 x3_2, .int .i64 a0_4] (by rfl) rfl rfl gl ?_
              with_reducible refine (impl_in.calls ((rd_T41 l0_3 x36_2).f1) x3_2 a0_4 true _ A20.out).mono ?_
              rintro e w' ⟨rfl, ⟨nd, rfl⟩⟩;refine ⟨_, rfl, ?_⟩;refine hK.out _ _ ⟨bc BK535.out 0, bc BK535.out 1, bc BK529.out 0, bc BK529.out 1, bc BK529.out 2, bc BK529.out 3, bc BK529.out 4⟩ (fun hHeld => ?_);clear hK K;refine norm_ (a' := ?_) ?_ ?_;rotate_left;(show Act.put _ (some 46) _ = _;simp only [Act.put, sx_, sy_, sz_, i64_w, i32_w];rfl);refine pu_ 6 47 (tb 24 127) HT_.out rfl rfl ?_;refine pu_ 7 48 (tb 24 255) HT_.out rfl rfl ?_;refine pu_ 8 49 (tb 24 511) HT_.out rfl rfl ?_;refine pu_ 10 51 (tb 24 1535) HT_.out rfl rfl ?_;refine tk_ (v := ?_) (a' := ?_) 9 50 (tb 24 2047) HT_.out HW_.out rfl rfl hHeld ?_ ?_ ?_;rotate_left;(rintro w' ⟨s0, s1, s2, s3, s4, s5, s6⟩;go_simp;with_reducible rfl);rotate_left;(simp only [Act.put, sx_, sy_, sz_, i64_w, i32_w];rfl);refine tk_ (v := ?_) (a' := ?_) 11 52 (tb 24 4095) HT_.out HW_.out rfl rfl hHeld ?_ ?_ ?_;rotate_left;(rintro w' ⟨s0, s1, s2, s3, s4, s5, s6⟩;go_simp;with_reducible rfl);rotate_left;(simp only [Act.put, sx_, sy_, sz_, i64_w, i32_w];rfl);refine one_ (i := 12) (N := some 53) (tb 24 8191) rfl rfl (one_of HT_.out (by kernel_rfl)) (by decide) (fun K hK => ?_);refine goes_ Try.func19 (by kernel_rfl) rfl #[.agg #[.slice A0_0 l0_0.length c0_0, .slice A0_1 l0_1.length c0_1], .int .i64 ((rd_T41 l0_3 x36_2).f0)] (by rfl) rfl rfl gl ?_
              with_reducible refine (impl_Live.calls k2 _ _ l0_0 _ _ l0_1 ((rd_T41 l0_3 x36_2).f0) true _ ?side1 ?side2 ?side3 ?side4 A22.out).mono ?_
              (case side1 => exact ck (Kd.C_below HR0_0.out (bw2 HB.out GE529.out GE535.out)))
              (case side2 => exact HC0_0.out)
              (case side3 => exact ck (Kd.C_below HR0_1.out (bw2 HB.out GE529.out GE535.out)))
              (case side4 => exact HC0_1.out)
              rintro e w33 ⟨rfl, hb⟩;refine ⟨_, rfl, ?_⟩;replace BK529 := A_ (bB BK529.out hb);replace BK535 := A_ (bB BK535.out hb);replace HB := A_ (below_step (bw2 HB.out GE529.out GE535.out) hb);(try clear hb);have q34 : (x36_2 : Int) ≤ ((l0_3.length : Int) : Int) := oa;obtain ⟨i034, hi034, _, hsz34, _⟩ := info_parts info41;have hroom34 : l0_3.length ≤ c0_3 := HC0_3.out;have hC34 : Kd.C k41 _ (some ad534) l0_3.length l0_3 := HR0_3.out;have hcut34 := cut_to (P := Try.prog) 28 41 .i64 Try.underlying28 hi034 (some ad534) l0_3.length c0_3 x36_2 (oa) q34 hroom34;have hr34 := Kd.C_take (m := (x36_2 : Int).toNat) hC34 (by omega);have hy34 : y538.length = (x36_2 : Int).toNat := (by rw [Ny538.out, List.length_take]; omega);rw [← Ny538.out] at hr34;rw [← hy34] at hcut34;have HR541 := A_ hr34;have HC541 := A_ (show y538.length ≤ c0_3 from by omega);clear hr34 hC34 hroom34 hi034 hsz34;have KY34 := A_ hy34;clear hy34;replace q34 := eq_true q34;refine hK.out _ _ ⟨bc BK535.out 0, bc BK535.out 1, bc BK529.out 0, bc BK529.out 1, bc BK529.out 2, bc BK529.out 3, bc BK529.out 4⟩ (fun hHeld => ?_);clear hK K;refine norm_ (a' := ?_) ?_ ?_;rotate_left;(show Act.put _ (some 53) _ = _;simp only [Act.put, sx_, sy_, sz_, i64_w, i32_w];rfl);refine pu_ 13 54 (tb 24 16383) HT_.out rfl rfl ?_;refine pu_ 14 55 (tb 24 32767) HT_.out rfl rfl ?_;refine pu_ 15 56 (tb 24 65535) HT_.out rfl rfl ?_;refine pu_ 16 57 (tb 24 131071) HT_.out rfl rfl ?_;refine pu_ 18 59 (tb 24 393215) HT_.out rfl rfl ?_;refine pu_ 20 61 (tb 24 1441791) HT_.out rfl rfl ?_
              refine tk_ (v := ?_) (a' := ?_) 17 58 (tb 24 1572863) HT_.out HW_.out rfl rfl hHeld ?_ ?_ ?_;rotate_left;(rintro w' ⟨s0, s1, s2, s3, s4, s5, s6⟩;go_simp;with_reducible rfl);rotate_left;(simp only [Act.put, sx_, sy_, sz_, i64_w, i32_w];rfl);refine pu_ 19 60 (tb 24 2097151) HT_.out rfl rfl ?_;refine tk_ (v := ?_) (a' := ?_) 21 62 (tb 24 4194303) HT_.out HW_.out rfl rfl hHeld ?_ ?_ ?_;rotate_left;(rintro w' ⟨s0, s1, s2, s3, s4, s5, s6⟩;go_simp;with_reducible rfl);rotate_left;(simp only [Act.put, sx_, sy_, sz_, i64_w, i32_w];rfl);refine one_ (i := 22) (N := some 63) (tb 24 8388607) rfl rfl (one_of HT_.out (by kernel_rfl)) (by decide) (fun K hK => ?_);refine goes_ Try.func47 (by kernel_rfl) rfl #[.slice (some ad534) y538.length c0_3, .int .i64 ((rd_T41 l0_3 x36_2).f0)] (by rfl) rfl rfl gl ?_
              with_reducible refine (impl_isRetired.calls k2 _ _ y538 ((rd_T41 l0_3 x36_2).f0) false _ ?side1 ?side2 A26.out).mono ?_
              (case side1 => exact ck (Kd.C_below HR541.out HB.out))
              (case side2 => exact HC541.out)
              rintro e w35 ⟨rfl, hb⟩;refine ⟨_, rfl, ?_⟩;replace BK529 := A_ (bB BK529.out hb);replace BK535 := A_ (bB BK535.out hb);replace HB := A_ (below_step (bw2 HB.out GE529.out GE535.out) hb);(try clear hb);refine hK.out _ _ ⟨bc BK535.out 0, bc BK535.out 1, bc BK529.out 0, bc BK529.out 1, bc BK529.out 2, bc BK529.out 3, bc BK529.out 4⟩ (fun hHeld => ?_);clear hK K;refine norm_ (a' := ?_) ?_ ?_;rotate_left;(show Act.put _ (some 63) _ = _;simp only [Act.put, sx_, sy_, sz_, i64_w, i32_w];rfl);refine pu_ 23 64 (tb 24 16777215) HT_.out rfl rfl ?_;refine done_ (done_of HT_.out (by kernel_rfl)) ?_;obtain ⟨hcz36_0, hcz36_1, hfz36_0, hfz36_1⟩ := cs2_ BK535.out
              try go_wp2
              go_roundg k2
              case measure => have := HJ1.out; have := HK2.out; omega
              case rel => exact ⟨((rd_T41 l0_3 x36_2).f1), (wrap64 (x36_2 + 1)), re, re, H', ⟨by have := HJ1.out; have := HK2.out; omega⟩, ⟨bk BK529.out⟩, ⟨bw2 HB.out GE529.out GE535.out⟩⟩
            ·rw [if_neg c25] at H
             exact absurd H (by simp)
           ·replace c23 := Bool.eq_false_iff.mpr c23
            subst c23;rw [if_neg (show ¬ (false = true) by decide)] at H;exact absurd H (by first | (simp; done) | ((repeat' split) <;> simp))
          ·replace c21 := Bool.eq_false_iff.mpr c21
           subst c21;rw [if_neg (show ¬ (false = true) by decide)] at H;exact absurd H (by first | (simp; done) | ((repeat' split) <;> simp))
         ·rw [if_neg c19] at H
          exact absurd H (by simp)
        ·rw [if_neg c18] at H
         exact absurd H (by simp)
       ·rw [if_neg c17] at H
        have c17b0 : decide (x36_2 < (l0_3.length : Int)) = false := decide_eq_false c17;clear c17;clear H;go_wp2
        go_ret
        (try rw [HT_.out])
        (try simp only [HT_.out])
        exact ⟨er, bw1 HB.out GE529.out⟩

def impl_classOf.f (k : Nat) (l0_0 : List (S77)) (l0_1 : List Int) (l0_2 : List Int) (l0_3 : List (S41)) (a0_4 : Int) (a1 : Int) : Option (Int) := if 0 ≤ a1 then (if a1 < (l0_0.length : Int) then ((impl_isListed.f ((rd_T77 l0_0 a1).f0) ((rd_T77 l0_0 a1).f1) ((rd_T77 l0_0 a1).f2.f0) ((rd_T77 l0_0 a1).f2.f1) ((rd_T77 l0_0 a1).f2.f2)).bind fun t546 => (if t546 = true then (some 0) else (if (rd_T77 l0_0 a1).f1 = true then (some 1) else ((impl_isRetired.f k l0_3 (wrap64 ((wrap64 (8 * a1)) + ((rd_T77 l0_0 a1).f0)))).bind fun t547 => (if t547 = true then (some 2) else (some 3)))))) else (none)) else (none)
set_option maxHeartbeats 8000000 in
set_option maxRecDepth 100000 in
theorem impl_classOf.calls (k : Nat) (A0_0 : Option Addr) (c0_0 : Nat) (l0_0 : List (S77)) (A0_1 : Option Addr) (c0_1 : Nat) (l0_1 : List Int) (A0_2 : Option Addr) (c0_2 : Nat) (l0_2 : List Int) (A0_3 : Option Addr) (c0_3 : Nat) (l0_3 : List (S41)) (a0_4 : Int) (a1 : Int) (r : Int) (w : World) (hr0_0 : Kd.C k77 w A0_0 l0_0.length l0_0) (hc0_0 : l0_0.length ≤ c0_0) (hr0_1 : Kd.C (Kd.int .i64) w A0_1 l0_1.length l0_1) (hc0_1 : l0_1.length ≤ c0_1) (hr0_2 : Kd.C (Kd.int .i64) w A0_2 l0_2.length l0_2) (hc0_2 : l0_2.length ≤ c0_2) (hr0_3 : Kd.C k41 w A0_3 l0_3.length l0_3) (hc0_3 : l0_3.length ≤ c0_3) (h : impl_classOf.f k l0_0 l0_1 l0_2 l0_3 a0_4 a1 = some r) :
  Calls Try.prog 42 #[.agg #[.slice A0_0 l0_0.length c0_0, .slice A0_1 l0_1.length c0_1, .slice A0_2 l0_2.length c0_2, .slice A0_3 l0_3.length c0_3, .int .i64 a0_4], .int .i64 a1] w fun e w' => e = .returned (.int .i64 r) ∧ Below w.heap.size w w' := by
 have hu30 := Try.underlying30;have hu77 := Try.underlying77;have HR0_0 := A_ hr0_0;have HC0_0 := A_ hc0_0;clear hr0_0 hc0_0;have HR0_1 := A_ hr0_1;have HC0_1 := A_ hc0_1;clear hr0_1 hc0_1;have HR0_2 := A_ hr0_2;have HC0_2 := A_ hc0_2;clear hr0_2 hc0_2;have HR0_3 := A_ hr0_3;have HC0_3 := A_ hc0_3;clear hr0_3 hc0_3;have HB := A_ (Below.refl w.heap.size w);have H : (if 0 ≤ a1 then (if a1 < (l0_0.length : Int) then ((impl_isListed.f ((rd_T77 l0_0 a1).f0) ((rd_T77 l0_0 a1).f1) ((rd_T77 l0_0 a1).f2.f0) ((rd_T77 l0_0 a1).f2.f1) ((rd_T77 l0_0 a1).f2.f2)).bind fun t546 => (if t546 = true then (some 0) else (if (rd_T77 l0_0 a1).f1 = true then (some 1) else ((impl_isRetired.f k l0_3 (wrap64 ((wrap64 (8 * a1)) + ((rd_T77 l0_0 a1).f0)))).bind fun t547 => (if t547 = true then (some 2) else (some 3)))))) else (none)) else (none)) = some r := h;clear h
 by_cases c3 : 0 ≤ a1
 ·rw [if_pos c3] at H
  have c3b0 : decide (0 ≤ a1) = true := decide_eq_true c3;clear c3
  by_cases c4 : a1 < (l0_0.length : Int)
  ·rw [if_pos c4] at H
   have c4b0 : decide (a1 < (l0_0.length : Int)) = true := decide_eq_true c4;clear c4;replace H := Option.bind_eq_some_iff.mp H;obtain ⟨t546, A50, H⟩ := H;have A5 := A_ A50;clear A50;have HC6 := A_ H;clear H
   go_enter Try.func42, Try.ntmps42
   go_upto_if 12 with (first | ((with_reducible refine gd_ 2 rfl ?_); refine bx_ 2 #[.slice A0_0 l0_0.length c0_0, .slice A0_1 l0_1.length c0_1, .slice A0_2 l0_2.length c0_2, .slice A0_3 l0_3.length c0_3, .int .i64 a0_4] 30 ?_; intro gb543 hg w7 hbox hb; have BK543 := A_ (hbox); have GW543 := A_ ((szl_ w hg (bw HB.out))); replace HB := A_ (below_step (bw HB.out) hb); have GE543 := GW543; clear hb hbox hg; obtain ⟨hcz8_0, hcz8_1, hcz8_2, hcz8_3, hcz8_4, hfz8_0, hfz8_1, hfz8_2, hfz8_3, hfz8_4⟩ := cs5_ BK543.out; have p544 : 0 ≤ (a1 : Int) := oa; have q544 : a1 < (l0_0.length : Int) := oa; obtain ⟨ad544, e544, hx544_0, hx544_1, hx544_2, hx544_3, hx544_4⟩ := at_T77 HR0_0.out a1 p544 q544; cases e544; replace hx544_0 := (HB.out.cell (World.block_lt_of_cell? w _ hx544_0)).trans hx544_0; replace hx544_1 := (HB.out.cell (World.block_lt_of_cell? w _ hx544_1)).trans hx544_1; replace hx544_2 := (HB.out.cell (World.block_lt_of_cell? w _ hx544_2)).trans hx544_2; replace hx544_3 := (HB.out.cell (World.block_lt_of_cell? w _ hx544_3)).trans hx544_3; replace hx544_4 := (HB.out.cell (World.block_lt_of_cell? w _ hx544_4)).trans hx544_4; replace p544 := eq_true p544; replace q544 := eq_true q544) | ((with_reducible refine gd_ 5 rfl ?_); refine bx_ 5 #[.int .i64 0, .bool false, .int .i64 0, .int .i64 0, .int .i64 0] 77 ?_; intro gb545 hg w9 hbox hb; have BK545 := A_ (hbox); have GW545 := A_ ((szl_ w hg (bw1 HB.out GE543.out))); replace HB := A_ (below_step (bw1 HB.out GE543.out) hb); have GE545 := GW545; have NB543_545 := A_ ((nl_ hg (bL BK543.out))); have NB545_543 := A_ ((ng_ hg (bL BK543.out))); replace BK543 := A_ (bB BK543.out hb); clear hb hbox hg; have hnb10 := NB545_543.out; have hnc10 := NB543_545.out; obtain ⟨hcz11_0, hcz11_1, hcz11_2, hcz11_3, hcz11_4, hfz11_0, hfz11_1, hfz11_2, hfz11_3, hfz11_4⟩ := cs5_ BK545.out) | ((with_reducible refine gk_ 81 rfl ?_); refine gL_ (some 14) Try.func81 #[.agg #[.int .i64 ((rd_T77 l0_0 a1).f0), .bool ((rd_T77 l0_0 a1).f1), .int .i64 ((rd_T77 l0_0 a1).f2.f0), .int .i64 ((rd_T77 l0_0 a1).f2.f1), .int .i64 ((rd_T77 l0_0 a1).f2.f2)]] ?_; (with_reducible refine (impl_isListed.calls ((rd_T77 l0_0 a1).f0) ((rd_T77 l0_0 a1).f1) ((rd_T77 l0_0 a1).f2.f0) ((rd_T77 l0_0 a1).f2.f1) ((rd_T77 l0_0 a1).f2.f2) t546 _ A5.out).mono ?_); rintro e w12 ⟨rfl, hb⟩; refine ⟨_, rfl, ?_⟩; replace BK543 := A_ (bC1 BK543.out NB543_545.out hb); replace BK545 := A_ (blk_below (g := gb545) (o := .cells #[.int .i64 ((rd_T77 l0_0 a1).f0), .bool ((rd_T77 l0_0 a1).f1), .int .i64 ((rd_T77 l0_0 a1).f2.f0), .int .i64 ((rd_T77 l0_0 a1).f2.f1), .int .i64 ((rd_T77 l0_0 a1).f2.f2)] 77 (0, 0)) (bp BK545.out) hb); replace HB := A_ (below_step (bw2 HB.out GE543.out GE545.out) hb); (try clear hb)))
   (try simp only [Act.put, sx_, sy_, sz_])
   have H := HC6.out;clear HC6
   by_cases c13 : t546 = true
   ·subst c13
    rw [if_pos rfl] at H;obtain rfl := Option.some.inj H;go_wp2
    go_ret
    exact ⟨er, bw2 HB.out GE543.out GE545.out⟩
   ·replace c13 := Bool.eq_false_iff.mpr c13
    subst c13;rw [if_neg (show ¬ (false = true) by decide)] at H;obtain ⟨bq14, hbq14⟩ : ∃ b_ : Bool, b_ = ((rd_T77 l0_0 a1).f1) := ⟨_, rfl⟩;rw [← hbq14] at H
    (try rw [← hbq14] at A5)
    have Nbq14 := A_ hbq14;clear hbq14
    (try rw [← Nbq14.out])
    replace BK545 := BK545.out;rw [← Nbq14.out] at BK545;replace BK545 := A_ BK545
    by_cases c15 : bq14 = true
    ·subst c15
     rw [if_pos rfl] at H;obtain rfl := Option.some.inj H;have hnb16 := NB545_543.out;have hnc16 := NB543_545.out;obtain ⟨hcz17_0, hcz17_1, hcz17_2, hcz17_3, hcz17_4, hfz17_0, hfz17_1, hfz17_2, hfz17_3, hfz17_4⟩ := cs5_ BK545.out;go_wp2
     go_ret
     exact ⟨er, bw2 HB.out GE543.out GE545.out⟩
    ·replace c15 := Bool.eq_false_iff.mpr c15
     subst c15;rw [if_neg (show ¬ (false = true) by decide)] at H;replace H := Option.bind_eq_some_iff.mp H;obtain ⟨t547, A180, H⟩ := H;have A18 := A_ A180;clear A180;have HC19 := A_ H;clear H;have hnb20 := NB545_543.out;have hnc20 := NB543_545.out;obtain ⟨hcz21_0, hcz21_1, hcz21_2, hcz21_3, hcz21_4, hfz21_0, hfz21_1, hfz21_2, hfz21_3, hfz21_4⟩ := cs5_ BK545.out;obtain ⟨hcz22_0, hcz22_1, hcz22_2, hcz22_3, hcz22_4, hfz22_0, hfz22_1, hfz22_2, hfz22_3, hfz22_4⟩ := cs5_ BK543.out
     go_upto_if 18 with (first | ((with_reducible refine gk_ 47 rfl ?_); refine gL_ (some 26) Try.func47 #[.slice A0_3 l0_3.length c0_3, .int .i64 (wrap64 ((wrap64 (8 * a1)) + ((rd_T77 l0_0 a1).f0)))] ?_; (with_reducible refine (impl_isRetired.calls k _ _ l0_3 (wrap64 ((wrap64 (8 * a1)) + ((rd_T77 l0_0 a1).f0))) t547 _ ?side1 ?side2 A18.out).mono ?_); (case side1 => exact ck (Kd.C_below HR0_3.out HB.out)); (case side2 => exact HC0_3.out); rintro e w23 ⟨rfl, hb⟩; refine ⟨_, rfl, ?_⟩; replace BK543 := A_ (bB BK543.out hb); replace BK545 := A_ (bB BK545.out hb); replace HB := A_ (below_step (bw2 HB.out GE543.out GE545.out) hb); (try clear hb)))
     (try simp only [Act.put, sx_, sy_, sz_])
     have H := HC19.out;clear HC19
     by_cases c24 : t547 = true
     ·subst c24
      rw [if_pos rfl] at H;obtain rfl := Option.some.inj H;go_wp2
      go_ret
      exact ⟨er, bw2 HB.out GE543.out GE545.out⟩
     ·replace c24 := Bool.eq_false_iff.mpr c24
      subst c24;rw [if_neg (show ¬ (false = true) by decide)] at H;obtain rfl := Option.some.inj H;go_wp2
      go_ret
      exact ⟨er, bw2 HB.out GE543.out GE545.out⟩
  ·rw [if_neg c4] at H
   exact absurd H (by simp)
 ·rw [if_neg c3] at H
  exact absurd H (by simp)


end Go.Proofs.Ytemdjfiimgjiaaa.R
namespace Go.Proofs.Ytemdjfiimgjiaaa.R
open Go.Proofs.Ytemdjfiimgjiaaa.Sq
open Go.RowKit Go.Proofs.YtemdjfiimgjiaaaW.PrintWords Go.Proofs.YtemdjfiimgjiaaaW.PrintLast Go.Proofs.YtemdjfiimgjiaaaW.PrintMore
attribute [local go_sem] max2_int min2_int max_two min_two max_three min_three max_four min_four   -- for this text's walks alone
set_option linter.unusedVariables false
set_option linter.unusedSimpArgs false

def impl_Counts.l0 : Nat → Int → Int → List (S77) → List Int → List Int → List (S41) → Int → Int → Int → Int → Int → Option (Int × Int × Int × Int × Bool)
 | 0, _, _, _, _, _, _, _, _, _, _, _ => none
 | k + 1, x14, x15, x549000, x549001, x549002, x549003, x549004, x551000, x551001, x551002, x551003 => if x15 < x14 then ((impl_classOf.f k x549000 x549001 x549002 x549003 x549004 x15).bind fun t552 => (if t552 = 0 then (impl_Counts.l0 k x14 (wrap64 (x15 + 1)) x549000 x549001 x549002 x549003 x549004 (wrap64 (x551000 + 1)) x551001 x551002 x551003) else (if t552 = 1 then (impl_Counts.l0 k x14 (wrap64 (x15 + 1)) x549000 x549001 x549002 x549003 x549004 x551000 (wrap64 (x551001 + 1)) x551002 x551003) else (if t552 = 2 then (impl_Counts.l0 k x14 (wrap64 (x15 + 1)) x549000 x549001 x549002 x549003 x549004 x551000 x551001 (wrap64 (x551002 + 1)) x551003) else (if t552 = 3 then (impl_Counts.l0 k x14 (wrap64 (x15 + 1)) x549000 x549001 x549002 x549003 x549004 x551000 x551001 x551002 (wrap64 (x551003 + 1))) else (none)))))) else (some (x551000, x551001, x551002, x551003, true))
def impl_Counts.f (k : Nat) (l0_0 : List (S77)) (l0_1 : List Int) (l0_2 : List Int) (l0_3 : List (S41)) (a0_4 : Int) : Option (Int × Int × Int × Int × Bool) := (impl_YardOk.f k l0_0 l0_1 l0_2 l0_3 a0_4).bind fun t551 => (if t551 = true then (impl_Counts.l0 k (l0_0.length : Int) 0 l0_0 l0_1 l0_2 l0_3 a0_4 0 0 0 0) else (none))
set_option maxHeartbeats 8000000 in
set_option maxRecDepth 100000 in
theorem impl_Counts.calls (k : Nat) (A0_0 : Option Addr) (c0_0 : Nat) (l0_0 : List (S77)) (A0_1 : Option Addr) (c0_1 : Nat) (l0_1 : List Int) (A0_2 : Option Addr) (c0_2 : Nat) (l0_2 : List Int) (A0_3 : Option Addr) (c0_3 : Nat) (l0_3 : List (S41)) (a0_4 : Int) (r1 : Int) (r2 : Int) (r3 : Int) (r4 : Int) (r5 : Bool) (w : World) (hr0_0 : Kd.C k77 w A0_0 l0_0.length l0_0) (hc0_0 : l0_0.length ≤ c0_0) (hr0_1 : Kd.C (Kd.int .i64) w A0_1 l0_1.length l0_1) (hc0_1 : l0_1.length ≤ c0_1) (hr0_2 : Kd.C (Kd.int .i64) w A0_2 l0_2.length l0_2) (hc0_2 : l0_2.length ≤ c0_2) (hr0_3 : Kd.C k41 w A0_3 l0_3.length l0_3) (hc0_3 : l0_3.length ≤ c0_3) (h : impl_Counts.f k l0_0 l0_1 l0_2 l0_3 a0_4 = some (r1, r2, r3, r4, r5)) :
  Calls Try.prog 15 #[.agg #[.slice A0_0 l0_0.length c0_0, .slice A0_1 l0_1.length c0_1, .slice A0_2 l0_2.length c0_2, .slice A0_3 l0_3.length c0_3, .int .i64 a0_4]] w fun e w' => e = .returned (.tuple #[.agg #[.int .i64 r1, .int .i64 r2, .int .i64 r3, .int .i64 r4], .bool r5]) ∧ Below w.heap.size w w' := by
 have hu30 := Try.underlying30;have hu32 := Try.underlying32;have HR0_0 := A_ hr0_0;have HC0_0 := A_ hc0_0;clear hr0_0 hc0_0;have HR0_1 := A_ hr0_1;have HC0_1 := A_ hc0_1;clear hr0_1 hc0_1;have HR0_2 := A_ hr0_2;have HC0_2 := A_ hc0_2;clear hr0_2 hc0_2;have HR0_3 := A_ hr0_3;have HC0_3 := A_ hc0_3;clear hr0_3 hc0_3;have HB := A_ (Below.refl w.heap.size w);have H : ((impl_YardOk.f k l0_0 l0_1 l0_2 l0_3 a0_4).bind fun t551 => (if t551 = true then (impl_Counts.l0 k (l0_0.length : Int) 0 l0_0 l0_1 l0_2 l0_3 a0_4 0 0 0 0) else (none))) = some (r1, r2, r3, r4, r5) := h;clear h;replace H := Option.bind_eq_some_iff.mp H;obtain ⟨t551, A20, H⟩ := H;replace H : (if t551 = true then (impl_Counts.l0 k (l0_0.length : Int) 0 l0_0 l0_1 l0_2 l0_3 a0_4 0 0 0 0) else (none)) = some (r1, r2, r3, r4, r5) := H;have A2 := A_ A20;clear A20;have HC3 := A_ H;clear H
 go_enter Try.func15, Try.ntmps15
 go_upto_if 9 with (first | ((with_reducible refine gd_ 1 rfl ?_); refine bx_ 1 #[.slice A0_0 l0_0.length c0_0, .slice A0_1 l0_1.length c0_1, .slice A0_2 l0_2.length c0_2, .slice A0_3 l0_3.length c0_3, .int .i64 a0_4] 30 ?_; intro gb548 hg w4 hbox hb; have BK548 := A_ (hbox); have GW548 := A_ ((szl_ w hg (bw HB.out))); replace HB := A_ (below_step (bw HB.out) hb); have GE548 := GW548; clear hb hbox hg) | ((with_reducible refine gd_ 2 rfl ?_); refine bx_ 2 #[.int .i64 0, .int .i64 0, .int .i64 0, .int .i64 0] 32 ?_; intro gb549 hg w5 hbox hb; have BK549 := A_ (hbox); have GW549 := A_ ((szl_ w hg (bw1 HB.out GE548.out))); replace HB := A_ (below_step (bw1 HB.out GE548.out) hb); have GE549 := GW549; have NB548_549 := A_ ((nl_ hg (bL BK548.out))); have NB549_548 := A_ ((ng_ hg (bL BK548.out))); replace BK548 := A_ (bB BK548.out hb); clear hb hbox hg) | ((with_reducible refine gd_ 4 rfl ?_); refine bx_ 4 #[.int .i64 0, .int .i64 0, .int .i64 0, .int .i64 0] 32 ?_; intro gb550 hg w6 hbox hb; have BK550 := A_ (hbox); have GW550 := A_ ((szl_ w hg (bw2 HB.out GE548.out GE549.out))); replace HB := A_ (below_step (bw2 HB.out GE548.out GE549.out) hb); have GE550 := GW550; have NB548_550 := A_ ((nl_ hg (bL BK548.out))); have NB550_548 := A_ ((ng_ hg (bL BK548.out))); replace BK548 := A_ (bB BK548.out hb); have NB549_550 := A_ ((nl_ hg (bL BK549.out))); have NB550_549 := A_ ((ng_ hg (bL BK549.out))); replace BK549 := A_ (bB BK549.out hb); clear hb hbox hg; have hnb7 := NB550_548.out; have hnc7 := NB548_550.out; have hnb8 := NB550_549.out; have hnc8 := NB549_550.out; obtain ⟨hcz9_0, hcz9_1, hcz9_2, hcz9_3, hfz9_0, hfz9_1, hfz9_2, hfz9_3⟩ := cs4_ BK550.out; have hnb10 := NB548_549.out; have hnc10 := NB549_548.out; obtain ⟨hcz11_0, hcz11_1, hcz11_2, hcz11_3, hcz11_4, hfz11_0, hfz11_1, hfz11_2, hfz11_3, hfz11_4⟩ := cs5_ BK548.out) | ((with_reducible refine gk_ 16 rfl ?_); refine gL_ (some 8) Try.func16 #[.agg #[.slice A0_0 l0_0.length c0_0, .slice A0_1 l0_1.length c0_1, .slice A0_2 l0_2.length c0_2, .slice A0_3 l0_3.length c0_3, .int .i64 a0_4]] ?_; (with_reducible refine (impl_YardOk.calls k _ _ l0_0 _ _ l0_1 _ _ l0_2 _ _ l0_3 a0_4 t551 _ ?side1 ?side2 ?side3 ?side4 ?side5 ?side6 ?side7 ?side8 A2.out (Classical.byContradiction fun n_ => by have h_ := HC3.out; rw [if_neg n_] at h_; cases h_)).mono ?_); (case side1 => exact Kd.C_below HR0_0.out (bw3 HB.out GE548.out GE549.out GE550.out)); (case side2 => exact HC0_0.out); (case side3 => exact Kd.C_below HR0_1.out (bw3 HB.out GE548.out GE549.out GE550.out)); (case side4 => exact HC0_1.out); (case side5 => exact Kd.C_below HR0_2.out (bw3 HB.out GE548.out GE549.out GE550.out)); (case side6 => exact HC0_2.out); (case side7 => exact Kd.C_below HR0_3.out (bw3 HB.out GE548.out GE549.out GE550.out)); (case side8 => exact HC0_3.out); rintro e w12 ⟨rfl, hb⟩; refine ⟨_, rfl, ?_⟩; replace BK548 := A_ (bC1 BK548.out NB548_550.out hb); replace BK549 := A_ (bC1 BK549.out NB549_550.out hb); replace BK550 := A_ (blk_below (g := gb550) (o := .cells #[.int .i64 0, .int .i64 0, .int .i64 0, .int .i64 0] 32 (0, 0)) (bp BK550.out) hb); replace HB := A_ (below_step (bw3 HB.out GE548.out GE549.out GE550.out) hb); (try clear hb)))
 (try simp only [Act.put, sx_, sy_, sz_])
 have H := HC3.out;clear HC3
 by_cases c13 : t551 = true
 ·subst c13
  have H1 : (impl_Counts.l0 k (l0_0.length : Int) 0 l0_0 l0_1 l0_2 l0_3 a0_4 0 0 0 0) = some (r1, r2, r3, r4, r5) := by rw [if_pos rfl] at H; exact H
  clear H;have H := H1;clear H1;have H' := A_ H;clear H;have hnb14 := NB548_549.out;have hnc14 := NB549_548.out;have hnb15 := NB548_550.out;have hnc15 := NB550_548.out;obtain ⟨hcz16_0, hcz16_1, hcz16_2, hcz16_3, hcz16_4, hfz16_0, hfz16_1, hfz16_2, hfz16_3, hfz16_4⟩ := cs5_ BK548.out;go_wp2
  go_loopg [15] k (fun kq v15 w' => ∃ (x15_1 : Int) (x551000_1 : Int) (x551001_1 : Int) (x551002_1 : Int) (x551003_1 : Int), v15 = .int .i64 x15_1 ∧ Aside0 (impl_Counts.l0 kq (l0_0.length : Int) x15_1 l0_0 l0_1 l0_2 l0_3 a0_4 x551000_1 x551001_1 x551002_1 x551003_1 = some (r1, r2, r3, r4, r5)) ∧ Aside0 (kq ≤ k) ∧ Aside0 (w'.heap[gb548]? = some (.cells #[(.slice A0_0 l0_0.length c0_0), (.slice A0_1 l0_1.length c0_1), (.slice A0_2 l0_2.length c0_2), (.slice A0_3 l0_3.length c0_3), .int .i64 a0_4] 30 (0, 0))) ∧ Aside0 (w'.heap[gb549]? = some (.cells #[.int .i64 0, .int .i64 0, .int .i64 0, .int .i64 0] 32 (0, 0))) ∧ Aside0 (w'.heap[gb550]? = some (.cells #[.int .i64 x551000_1, .int .i64 x551001_1, .int .i64 x551002_1, .int .i64 x551003_1] 32 (0, 0))) ∧ Aside0 (Below w.heap.size w w'))
  case atStart => exact ⟨(0), (0), (0), (0), (0), re, H', ⟨Nat.le_refl _⟩, ⟨bk BK548.out⟩, ⟨bk BK549.out⟩, ⟨bk BK550.out⟩, ⟨bw3 HB.out GE548.out GE549.out GE550.out⟩⟩
  case round =>
   clear H';(try clear c1); (try clear p2); (try clear c7); (try clear c8); (try clear c10); (try clear c13); (try clear c14); (try clear c15); (try clear c16); (try clear hcz11_0 hcz11_1 hcz11_2 hcz11_3 hcz11_4); (try clear hcz16_0 hcz16_1 hcz16_2 hcz16_3 hcz16_4); (try clear hcz9_0 hcz9_1 hcz9_2 hcz9_3); (try clear hfz11_0 hfz11_1 hfz11_2 hfz11_3 hfz11_4); (try clear hfz16_0 hfz16_1 hfz16_2 hfz16_3 hfz16_4); (try clear hfz9_0 hfz9_1 hfz9_2 hfz9_3)
   obtain ⟨x15_1, x551000_1, x551001_1, x551002_1, x551003_1, rfl, HA, HK1, BK548, BK549, BK550, HB⟩ := hrel;cases gk with
   | zero => exact absurd HA.out (by simp [impl_Counts.l0])
   | succ k1 =>
    have H := HA.out;clear HA;simp only [impl_Counts.l0] at H
    by_cases c17 : x15_1 < (l0_0.length : Int)
    ·rw [if_pos c17] at H
     have c17b0 : decide (x15_1 < (l0_0.length : Int)) = true := decide_eq_true c17;clear c17;(first | rw [c17b0] | (simp only [i64_w, i32_w]; rw [c17b0]) | skip)
     replace H := Option.bind_eq_some_iff.mp H;obtain ⟨t552, A180, H⟩ := H;replace H : (if t552 = 0 then (impl_Counts.l0 k1 (l0_0.length : Int) (wrap64 (x15_1 + 1)) l0_0 l0_1 l0_2 l0_3 a0_4 (wrap64 (x551000_1 + 1)) x551001_1 x551002_1 x551003_1) else (if t552 = 1 then (impl_Counts.l0 k1 (l0_0.length : Int) (wrap64 (x15_1 + 1)) l0_0 l0_1 l0_2 l0_3 a0_4 x551000_1 (wrap64 (x551001_1 + 1)) x551002_1 x551003_1) else (if t552 = 2 then (impl_Counts.l0 k1 (l0_0.length : Int) (wrap64 (x15_1 + 1)) l0_0 l0_1 l0_2 l0_3 a0_4 x551000_1 x551001_1 (wrap64 (x551002_1 + 1)) x551003_1) else (if t552 = 3 then (impl_Counts.l0 k1 (l0_0.length : Int) (wrap64 (x15_1 + 1)) l0_0 l0_1 l0_2 l0_3 a0_4 x551000_1 x551001_1 x551002_1 (wrap64 (x551003_1 + 1))) else (none))))) = some (r1, r2, r3, r4, r5) := H;have A18 := A_ A180;clear A180
     by_cases c19 : t552 = 0
     ·subst c19
      have H1 : (impl_Counts.l0 k1 (l0_0.length : Int) (wrap64 (x15_1 + 1)) l0_0 l0_1 l0_2 l0_3 a0_4 (wrap64 (x551000_1 + 1)) x551001_1 x551002_1 x551003_1) = some (r1, r2, r3, r4, r5) := by rw [if_pos rfl] at H; exact H
      clear H;have H := H1;clear H1;have H' := A_ H;clear H;have hnb20 := NB548_549.out;have hnc20 := NB549_548.out;have hnb21 := NB548_550.out;have hnc21 := NB550_548.out;obtain ⟨hcz22_0, hcz22_1, hcz22_2, hcz22_3, hcz22_4, hfz22_0, hfz22_1, hfz22_2, hfz22_3, hfz22_4⟩ := cs5_ BK548.out
      go_wp2_with (first | ((with_reducible refine gk_ 42 rfl ?_); refine gL_ (some 20) Try.func42 #[.agg #[.slice A0_0 l0_0.length c0_0, .slice A0_1 l0_1.length c0_1, .slice A0_2 l0_2.length c0_2, .slice A0_3 l0_3.length c0_3, .int .i64 a0_4], .int .i64 x15_1] ?_; (with_reducible refine (impl_classOf.calls k1 _ _ l0_0 _ _ l0_1 _ _ l0_2 _ _ l0_3 a0_4 x15_1 0 _ ?side1 ?side2 ?side3 ?side4 ?side5 ?side6 ?side7 ?side8 A18.out).mono ?_); (case side1 => exact ck (Kd.C_below HR0_0.out HB.out)); (case side2 => exact HC0_0.out); (case side3 => exact ck (Kd.C_below HR0_1.out HB.out)); (case side4 => exact HC0_1.out); (case side5 => exact ck (Kd.C_below HR0_2.out HB.out)); (case side6 => exact HC0_2.out); (case side7 => exact ck (Kd.C_below HR0_3.out HB.out)); (case side8 => exact HC0_3.out); rintro e w23 ⟨rfl, hb⟩; refine ⟨_, rfl, ?_⟩; replace BK548 := A_ (bB BK548.out hb); replace BK549 := A_ (bB BK549.out hb); replace BK550 := A_ (bB BK550.out hb); replace HB := A_ (below_step (bw3 HB.out GE548.out GE549.out GE550.out) hb); (try clear hb); have hnb24 := NB550_549.out; have hnc24 := NB549_550.out; obtain ⟨hcz25_0, hcz25_1, hcz25_2, hcz25_3, hfz25_0, hfz25_1, hfz25_2, hfz25_3⟩ := cs4_ BK550.out))
      go_roundg k1
      case measure => have := HK1.out; omega
      case rel => exact ⟨(wrap64 (x15_1 + 1)), (wrap64 (x551000_1 + 1)), (x551001_1), (x551002_1), (x551003_1), re, H', ⟨by have := HK1.out; omega⟩, ⟨by (with_reducible repeat (first | refine blk_drewN ?_ _ | refine blk_drew ?_ | refine blk_alloc ?_ _)); refine blk_far ?_ NB548_550.out _; (with_reducible repeat (first | refine blk_drewN ?_ _ | refine blk_drew ?_ | refine blk_alloc ?_ _)); exact BK548.out⟩, ⟨by (with_reducible repeat (first | refine blk_drewN ?_ _ | refine blk_drew ?_ | refine blk_alloc ?_ _)); refine blk_far ?_ NB549_550.out _; (with_reducible repeat (first | refine blk_drewN ?_ _ | refine blk_drew ?_ | refine blk_alloc ?_ _)); exact BK549.out⟩, ⟨by (with_reducible repeat (first | refine blk_drewN ?_ _ | refine blk_drew ?_ | refine blk_alloc ?_ _)); refine blk_put (cs := #[.int .i64 x551000_1, .int .i64 x551001_1, .int .i64 x551002_1, .int .i64 x551003_1]) ?_ 0 _ rfl; (with_reducible repeat (first | refine blk_drewN ?_ _ | refine blk_drew ?_ | refine blk_alloc ?_ _)); exact BK550.out⟩, ⟨bw3 HB.out GE548.out GE549.out GE550.out⟩⟩
     ·rw [if_neg c19] at H
      clear c19
      by_cases c26 : t552 = 1
      ·subst c26
       have H1 : (impl_Counts.l0 k1 (l0_0.length : Int) (wrap64 (x15_1 + 1)) l0_0 l0_1 l0_2 l0_3 a0_4 x551000_1 (wrap64 (x551001_1 + 1)) x551002_1 x551003_1) = some (r1, r2, r3, r4, r5) := by rw [if_pos rfl] at H; exact H
       clear H;have H := H1;clear H1;have H' := A_ H;clear H;have hnb27 := NB548_549.out;have hnc27 := NB549_548.out;have hnb28 := NB548_550.out;have hnc28 := NB550_548.out;obtain ⟨hcz29_0, hcz29_1, hcz29_2, hcz29_3, hcz29_4, hfz29_0, hfz29_1, hfz29_2, hfz29_3, hfz29_4⟩ := cs5_ BK548.out
       go_wp2_with (first | ((with_reducible refine gk_ 42 rfl ?_); refine gL_ (some 20) Try.func42 #[.agg #[.slice A0_0 l0_0.length c0_0, .slice A0_1 l0_1.length c0_1, .slice A0_2 l0_2.length c0_2, .slice A0_3 l0_3.length c0_3, .int .i64 a0_4], .int .i64 x15_1] ?_; (with_reducible refine (impl_classOf.calls k1 _ _ l0_0 _ _ l0_1 _ _ l0_2 _ _ l0_3 a0_4 x15_1 1 _ ?side1 ?side2 ?side3 ?side4 ?side5 ?side6 ?side7 ?side8 A18.out).mono ?_); (case side1 => exact ck (Kd.C_below HR0_0.out HB.out)); (case side2 => exact HC0_0.out); (case side3 => exact ck (Kd.C_below HR0_1.out HB.out)); (case side4 => exact HC0_1.out); (case side5 => exact ck (Kd.C_below HR0_2.out HB.out)); (case side6 => exact HC0_2.out); (case side7 => exact ck (Kd.C_below HR0_3.out HB.out)); (case side8 => exact HC0_3.out); rintro e w30 ⟨rfl, hb⟩; refine ⟨_, rfl, ?_⟩; replace BK548 := A_ (bB BK548.out hb); replace BK549 := A_ (bB BK549.out hb); replace BK550 := A_ (bB BK550.out hb); replace HB := A_ (below_step (bw3 HB.out GE548.out GE549.out GE550.out) hb); (try clear hb); have hnb31 := NB550_549.out; have hnc31 := NB549_550.out; obtain ⟨hcz32_0, hcz32_1, hcz32_2, hcz32_3, hfz32_0, hfz32_1, hfz32_2, hfz32_3⟩ := cs4_ BK550.out))
       go_roundg k1
       case measure => have := HK1.out; omega
       case rel => exact ⟨(wrap64 (x15_1 + 1)), (x551000_1), (wrap64 (x551001_1 + 1)), (x551002_1), (x551003_1), re, H', ⟨by have := HK1.out; omega⟩, ⟨by (with_reducible repeat (first | refine blk_drewN ?_ _ | refine blk_drew ?_ | refine blk_alloc ?_ _)); refine blk_far ?_ NB548_550.out _; (with_reducible repeat (first | refine blk_drewN ?_ _ | refine blk_drew ?_ | refine blk_alloc ?_ _)); exact BK548.out⟩, ⟨by (with_reducible repeat (first | refine blk_drewN ?_ _ | refine blk_drew ?_ | refine blk_alloc ?_ _)); refine blk_far ?_ NB549_550.out _; (with_reducible repeat (first | refine blk_drewN ?_ _ | refine blk_drew ?_ | refine blk_alloc ?_ _)); exact BK549.out⟩, ⟨by (with_reducible repeat (first | refine blk_drewN ?_ _ | refine blk_drew ?_ | refine blk_alloc ?_ _)); refine blk_put (cs := #[.int .i64 x551000_1, .int .i64 x551001_1, .int .i64 x551002_1, .int .i64 x551003_1]) ?_ 1 _ rfl; (with_reducible repeat (first | refine blk_drewN ?_ _ | refine blk_drew ?_ | refine blk_alloc ?_ _)); exact BK550.out⟩, ⟨bw3 HB.out GE548.out GE549.out GE550.out⟩⟩
      ·rw [if_neg c26] at H
       clear c26
       by_cases c33 : t552 = 2
       ·subst c33
        have H1 : (impl_Counts.l0 k1 (l0_0.length : Int) (wrap64 (x15_1 + 1)) l0_0 l0_1 l0_2 l0_3 a0_4 x551000_1 x551001_1 (wrap64 (x551002_1 + 1)) x551003_1) = some (r1, r2, r3, r4, r5) := by rw [if_pos rfl] at H; exact H
        clear H;have H := H1;clear H1;have H' := A_ H;clear H;have hnb34 := NB548_549.out;have hnc34 := NB549_548.out;have hnb35 := NB548_550.out;have hnc35 := NB550_548.out;obtain ⟨hcz36_0, hcz36_1, hcz36_2, hcz36_3, hcz36_4, hfz36_0, hfz36_1, hfz36_2, hfz36_3, hfz36_4⟩ := cs5_ BK548.out
        go_wp2_with (first | ((with_reducible refine gk_ 42 rfl ?_); refine gL_ (some 20) Try.func42 #[.agg #[.slice A0_0 l0_0.length c0_0, .slice A0_1 l0_1.length c0_1, .slice A0_2 l0_2.length c0_2, .slice A0_3 l0_3.length c0_3, .int .i64 a0_4], .int .i64 x15_1] ?_; (with_reducible refine (impl_classOf.calls k1 _ _ l0_0 _ _ l0_1 _ _ l0_2 _ _ l0_3 a0_4 x15_1 2 _ ?side1 ?side2 ?side3 ?side4 ?side5 ?side6 ?side7 ?side8 A18.out).mono ?_); (case side1 => exact ck (Kd.C_below HR0_0.out HB.out)); (case side2 => exact HC0_0.out); (case side3 => exact ck (Kd.C_below HR0_1.out HB.out)); (case side4 => exact HC0_1.out); (case side5 => exact ck (Kd.C_below HR0_2.out HB.out)); (case side6 => exact HC0_2.out); (case side7 => exact ck (Kd.C_below HR0_3.out HB.out)); (case side8 => exact HC0_3.out); rintro e w37 ⟨rfl, hb⟩; refine ⟨_, rfl, ?_⟩; replace BK548 := A_ (bB BK548.out hb); replace BK549 := A_ (bB BK549.out hb); replace BK550 := A_ (bB BK550.out hb); replace HB := A_ (below_step (bw3 HB.out GE548.out GE549.out GE550.out) hb); (try clear hb); have hnb38 := NB550_549.out; have hnc38 := NB549_550.out; obtain ⟨hcz39_0, hcz39_1, hcz39_2, hcz39_3, hfz39_0, hfz39_1, hfz39_2, hfz39_3⟩ := cs4_ BK550.out))
        go_roundg k1
        case measure => have := HK1.out; omega
        case rel => exact ⟨(wrap64 (x15_1 + 1)), (x551000_1), (x551001_1), (wrap64 (x551002_1 + 1)), (x551003_1), re, H', ⟨by have := HK1.out; omega⟩, ⟨by (with_reducible repeat (first | refine blk_drewN ?_ _ | refine blk_drew ?_ | refine blk_alloc ?_ _)); refine blk_far ?_ NB548_550.out _; (with_reducible repeat (first | refine blk_drewN ?_ _ | refine blk_drew ?_ | refine blk_alloc ?_ _)); exact BK548.out⟩, ⟨by (with_reducible repeat (first | refine blk_drewN ?_ _ | refine blk_drew ?_ | refine blk_alloc ?_ _)); refine blk_far ?_ NB549_550.out _; (with_reducible repeat (first | refine blk_drewN ?_ _ | refine blk_drew ?_ | refine blk_alloc ?_ _)); exact BK549.out⟩, ⟨by (with_reducible repeat (first | refine blk_drewN ?_ _ | refine blk_drew ?_ | refine blk_alloc ?_ _)); refine blk_put (cs := #[.int .i64 x551000_1, .int .i64 x551001_1, .int .i64 x551002_1, .int .i64 x551003_1]) ?_ 2 _ rfl; (with_reducible repeat (first | refine blk_drewN ?_ _ | refine blk_drew ?_ | refine blk_alloc ?_ _)); exact BK550.out⟩, ⟨bw3 HB.out GE548.out GE549.out GE550.out⟩⟩
       ·rw [if_neg c33] at H
        clear c33
        by_cases c40 : t552 = 3
        ·subst c40
         have H1 : (impl_Counts.l0 k1 (l0_0.length : Int) (wrap64 (x15_1 + 1)) l0_0 l0_1 l0_2 l0_3 a0_4 x551000_1 x551001_1 x551002_1 (wrap64 (x551003_1 + 1))) = some (r1, r2, r3, r4, r5) := by rw [if_pos rfl] at H; exact H
         clear H;have H := H1;clear H1;have H' := A_ H;clear H;have hnb41 := NB548_549.out;have hnc41 := NB549_548.out;have hnb42 := NB548_550.out;have hnc42 := NB550_548.out;obtain ⟨hcz43_0, hcz43_1, hcz43_2, hcz43_3, hcz43_4, hfz43_0, hfz43_1, hfz43_2, hfz43_3, hfz43_4⟩ := cs5_ BK548.out
         go_wp2_with (first | ((with_reducible refine gk_ 42 rfl ?_); refine gL_ (some 20) Try.func42 #[.agg #[.slice A0_0 l0_0.length c0_0, .slice A0_1 l0_1.length c0_1, .slice A0_2 l0_2.length c0_2, .slice A0_3 l0_3.length c0_3, .int .i64 a0_4], .int .i64 x15_1] ?_; (with_reducible refine (impl_classOf.calls k1 _ _ l0_0 _ _ l0_1 _ _ l0_2 _ _ l0_3 a0_4 x15_1 3 _ ?side1 ?side2 ?side3 ?side4 ?side5 ?side6 ?side7 ?side8 A18.out).mono ?_); (case side1 => exact ck (Kd.C_below HR0_0.out HB.out)); (case side2 => exact HC0_0.out); (case side3 => exact ck (Kd.C_below HR0_1.out HB.out)); (case side4 => exact HC0_1.out); (case side5 => exact ck (Kd.C_below HR0_2.out HB.out)); (case side6 => exact HC0_2.out); (case side7 => exact ck (Kd.C_below HR0_3.out HB.out)); (case side8 => exact HC0_3.out); rintro e w44 ⟨rfl, hb⟩; refine ⟨_, rfl, ?_⟩; replace BK548 := A_ (bB BK548.out hb); replace BK549 := A_ (bB BK549.out hb); replace BK550 := A_ (bB BK550.out hb); replace HB := A_ (below_step (bw3 HB.out GE548.out GE549.out GE550.out) hb); (try clear hb); have hnb45 := NB550_549.out; have hnc45 := NB549_550.out; obtain ⟨hcz46_0, hcz46_1, hcz46_2, hcz46_3, hfz46_0, hfz46_1, hfz46_2, hfz46_3⟩ := cs4_ BK550.out))
         go_roundg k1
         case measure => have := HK1.out; omega
         case rel => exact ⟨(wrap64 (x15_1 + 1)), (x551000_1), (x551001_1), (x551002_1), (wrap64 (x551003_1 + 1)), re, H', ⟨by have := HK1.out; omega⟩, ⟨by (with_reducible repeat (first | refine blk_drewN ?_ _ | refine blk_drew ?_ | refine blk_alloc ?_ _)); refine blk_far ?_ NB548_550.out _; (with_reducible repeat (first | refine blk_drewN ?_ _ | refine blk_drew ?_ | refine blk_alloc ?_ _)); exact BK548.out⟩, ⟨by (with_reducible repeat (first | refine blk_drewN ?_ _ | refine blk_drew ?_ | refine blk_alloc ?_ _)); refine blk_far ?_ NB549_550.out _; (with_reducible repeat (first | refine blk_drewN ?_ _ | refine blk_drew ?_ | refine blk_alloc ?_ _)); exact BK549.out⟩, ⟨by (with_reducible repeat (first | refine blk_drewN ?_ _ | refine blk_drew ?_ | refine blk_alloc ?_ _)); refine blk_put (cs := #[.int .i64 x551000_1, .int .i64 x551001_1, .int .i64 x551002_1, .int .i64 x551003_1]) ?_ 3 _ rfl; (with_reducible repeat (first | refine blk_drewN ?_ _ | refine blk_drew ?_ | refine blk_alloc ?_ _)); exact BK550.out⟩, ⟨bw3 HB.out GE548.out GE549.out GE550.out⟩⟩
        ·rw [if_neg c40] at H
         clear c40;exact absurd H (by simp)
    ·rw [if_neg c17] at H
     have c17b0 : decide (x15_1 < (l0_0.length : Int)) = false := decide_eq_false c17;clear c17;(first | rw [c17b0] | (simp only [i64_w, i32_w]; rw [c17b0]) | skip)
     simp only [Option.some.injEq, Prod.mk.injEq] at H;obtain ⟨rfl, rfl, rfl, rfl, rfl⟩ := H;have hnb47 := NB550_548.out;have hnc47 := NB548_550.out;have hnb48 := NB550_549.out;have hnc48 := NB549_550.out;obtain ⟨hcz49_0, hcz49_1, hcz49_2, hcz49_3, hfz49_0, hfz49_1, hfz49_2, hfz49_3⟩ := cs4_ BK550.out;have hnb50 := NB549_548.out;have hnc50 := NB548_549.out;obtain ⟨hcz51_0, hcz51_1, hcz51_2, hcz51_3, hfz51_0, hfz51_1, hfz51_2, hfz51_3⟩ := cs4_ BK549.out;go_wp2
     refine bodyPost_ret (results_ct rfl _ _ gb549 32 #[.int .i64 x551000_1, .int .i64 x551001_1, .int .i64 x551002_1, .int .i64 x551003_1] (0, 0) _ rfl (bp BK549.out) Try.underlying32 rfl (by kernel_rfl)) rfl ?_;exact ⟨er, bw3 HB.out GE548.out GE549.out GE550.out⟩
 ·replace c13 := Bool.eq_false_iff.mpr c13
  subst c13;have H1 : (none) = some (r1, r2, r3, r4, r5) := by rw [if_neg (show ¬ (false = true) by decide)] at H; exact H
  clear H;have H := H1;clear H1;exact absurd H (by simp)

def impl_own.f (l0 : List Int) : Option (List Int) := (some (([] : List Int) : List Int)).bind fun y553 => (if y553.length + l0.length < 17592186044416 then (some (y553 ++ l0)) else (none))
set_option maxHeartbeats 8000000 in
set_option maxRecDepth 100000 in
theorem impl_own.calls (A0 : Option Addr) (c0 : Nat) (l0 : List Int) (r : List Int) (w : World) (hr0 : Kd.C (Kd.int .i64) w A0 l0.length l0) (hc0 : l0.length ≤ c0) (h : impl_own.f l0 = some r) :
  Calls Try.prog 87 #[.slice A0 l0.length c0] w fun e w' => ∃ v0_ : Value, e = .returned (v0_) ∧ Kd.R (Kd.int .i64) 3 w' w.heap.size (fun _ => True) v0_ r ∧ Below w.heap.size w w' := by
 have HR0 := A_ hr0;have HC0 := A_ hc0;clear hr0 hc0;have HB := A_ (Below.refl w.heap.size w);have H : ((some (([] : List Int) : List Int)).bind fun y553 => (if y553.length + l0.length < 17592186044416 then (some (y553 ++ l0)) else (none))) = some r := h;clear h;obtain ⟨y553, hy553⟩ : ∃ y_ : List Int, y_ = (([] : List Int)) := ⟨_, rfl⟩;replace H : (if y553.length + l0.length < 17592186044416 then (some (y553 ++ l0)) else (none)) = some r := by first | (rw [hy553]; with_reducible exact H) | (have H2_ := (Option.bind_some _ _).symm.trans H; rw [hy553]; with_reducible exact H2_) | (have H2_ := (Option.bind_some _ _).symm.trans H; with_reducible exact H2_) | with_reducible exact H | (rw [hy553]; exact H) | exact H
 have Ny553 := A_ hy553;clear hy553
 by_cases c2 : y553.length + l0.length < 17592186044416
 ·rw [if_pos c2] at H
  have LMc2 := A_ c2;clear c2;obtain ⟨y556, hy556⟩ : ∃ y_ : List Int, y_ = (y553 ++ l0) := ⟨_, rfl⟩;replace H : (some y556) = some r := by first | (rw [hy556]; with_reducible exact H) | (have H2_ := (Option.bind_some _ _).symm.trans H; rw [hy556]; with_reducible exact H2_) | (have H2_ := (Option.bind_some _ _).symm.trans H; with_reducible exact H2_) | with_reducible exact H | (rw [hy556]; exact H) | exact H
  have Ny556 := A_ hy556;clear hy556;obtain rfl := Option.some.inj H
  go_enter Try.func87, Try.ntmps87
  go_wp2_with (first | ((with_reducible refine gd_ 3 rfl ?_); refine Kd.R_lit (Kd.int .i64) _ 3 ?hg (N := 3) ?hd (xs := ([] : List Int)) (inner := []) (ok := fun _ => True) (okp := fun _ => True) ?hr ?hp (fun _ hk => hk) trivial (Below.refl _ _) (Nat.le_refl _) (by simp) ?_; (case hd => rfl); (case hg => rfl); (case hr => first | (go_simp; done) | (go_simp; rfl)); (case hp => exact (Reps.none _ _)); intro v554 w3 ho4 hb hg_ hnew_; clear hg_ hnew_; (first | rw [← Ny553.out] at ho4 | (simp only [Int.reduceToNat] at ho4; rw [← Ny553.out] at ho4)); have HO555 := A_ (Kd.R_lower ho4 (below_size (bw HB.out))); replace HB := A_ (below_step (bw HB.out) hb); clear hb ho4) | ((with_reducible refine gate_builtin (b := .append) (xs := #[.tmp 3, .tmp 4]) rfl ?_); at_builtin; refine Kd.R_append_rows (Kd.int .i64) (w0 := w) w.heap.size rfl (.tmp 3) (.tmp 4) 25 3 (.int .i64 0) 8 rfl Try.underlying25 info3 rfl (by decide) (by omega) v554 y553 l0 _ _ _ (fun _ => True) (fun _ => False) rfl rfl ?aO ?aR (fun _ _ h => h) (fun _ h => h.elim) ?aF ?aB ?aS ?aL ?_; (case aR => exact ck (Kd.C_below HR0.out HB.out)); (case aB => exact (bw HB.out)); (case aF => exact (fun _ _ => trivial)); (case aO => exact (rk HO555.out)); (case aS => exact (below_size (bw HB.out))); (case aL => have := LMc2.out; omega); intro v557 w5 ho hb hg hat; rw [← Ny556.out] at ho; replace HB := A_ (hb); have HO558 := A_ (ho); clear HO555; clear ho hb hg hat))
  go_ret
  exact ⟨_, er, by refine pl ?_;exact HO558.out, bw HB.out⟩
 ·rw [if_neg c2] at H
  exact absurd H (by simp)

def impl_ownArena.f (l0_0 : List (S77)) (l0_1 : List Int) : Option ((List (S77)) × List Int) := (some (([] : List (S77)) : List (S77))).bind fun y561 => (if y561.length + l0_0.length < 3518437208883 then ((impl_own.f l0_1).bind fun t567 => (some ((y561 ++ l0_0), t567))) else (none))
def impl_ownArena.T1 : Bool × List (List Nat × List Nat) := (true, [([], []), ([], []), ([1], [1]), ([0, 2], [0, 2]), ([], []), ([4], [4]), ([5, 3], [5]), ([3, 6], [3, 6]), ([7, 6, 0, 1, 2, 3, 4, 5, 6, 7], [7])])
def impl_ownArena.B1 : List Nat := [0, 0, 2, 7, 0, 16, 63, 127, 255]
theorem impl_ownArena.tab1 : rtab .any (opsOf Try.f53 1) = impl_ownArena.T1 := by kernel_rfl
theorem impl_ownArena.bits1 : waitsOk impl_ownArena.T1.2 impl_ownArena.B1 = true := by kernel_rfl
set_option maxHeartbeats 8000000 in
set_option maxRecDepth 100000 in
theorem impl_ownArena.calls (A0_0 : Option Addr) (c0_0 : Nat) (l0_0 : List (S77)) (A0_1 : Option Addr) (c0_1 : Nat) (l0_1 : List Int) (r1 : List (S77)) (r2 : List Int) (w : World) (hr0_0 : Kd.C k77 w A0_0 l0_0.length l0_0) (hc0_0 : l0_0.length ≤ c0_0) (hr0_1 : Kd.C (Kd.int .i64) w A0_1 l0_1.length l0_1) (hc0_1 : l0_1.length ≤ c0_1) (h : impl_ownArena.f l0_0 l0_1 = some (r1, r2)) :
  Calls Try.prog 53 #[.agg #[.slice A0_0 l0_0.length c0_0, .slice A0_1 l0_1.length c0_1]] w fun e w' => ∃ v0_ v1_ : Value, e = .returned (.agg #[v0_, v1_]) ∧ Kd.R k77 77 w' w.heap.size (fun _ => True) v0_ r1 ∧ Kd.R (Kd.int .i64) 3 w' w.heap.size (fun _ => True) v1_ r2 ∧ Below w.heap.size w w' := by
 have hu27 := Try.underlying27;have HR0_0 := A_ hr0_0;have HC0_0 := A_ hc0_0;clear hr0_0 hc0_0;have HR0_1 := A_ hr0_1;have HC0_1 := A_ hc0_1;clear hr0_1 hc0_1;have HB := A_ (Below.refl w.heap.size w);have H : ((some (([] : List (S77)) : List (S77))).bind fun y561 => (if y561.length + l0_0.length < 3518437208883 then ((impl_own.f l0_1).bind fun t567 => (some ((y561 ++ l0_0), t567))) else (none))) = some (r1, r2) := h;clear h;obtain ⟨y561, hy561⟩ : ∃ y_ : List (S77), y_ = (([] : List (S77))) := ⟨_, rfl⟩;replace H : (if y561.length + l0_0.length < 3518437208883 then ((impl_own.f l0_1).bind fun t567 => (some ((y561 ++ l0_0), t567))) else (none)) = some (r1, r2) := by first | (rw [hy561]; with_reducible exact H) | (have H2_ := (Option.bind_some _ _).symm.trans H; rw [hy561]; with_reducible exact H2_) | (have H2_ := (Option.bind_some _ _).symm.trans H; with_reducible exact H2_) | with_reducible exact H | (rw [hy561]; exact H) | exact H
 have Ny561 := A_ hy561;clear hy561
 by_cases c2 : y561.length + l0_0.length < 3518437208883
 ·rw [if_pos c2] at H
  have LMc2 := A_ c2;clear c2;obtain ⟨y564, hy564⟩ : ∃ y_ : List (S77), y_ = (y561 ++ l0_0) := ⟨_, rfl⟩;replace H : ((impl_own.f l0_1).bind fun t567 => (some (y564, t567))) = some (r1, r2) := by first | (rw [hy564]; with_reducible exact H) | (have H2_ := (Option.bind_some _ _).symm.trans H; rw [hy564]; with_reducible exact H2_) | (have H2_ := (Option.bind_some _ _).symm.trans H; with_reducible exact H2_) | with_reducible exact H | (rw [hy564]; exact H) | exact H
  have Ny564 := A_ hy564;clear hy564;replace H := Option.bind_eq_some_iff.mp H;obtain ⟨t567, A30, H⟩ := H;replace H : (some (y564, t567)) = some (r1, r2) := H;have A3 := A_ A30;clear A30;simp only [Option.some.injEq, Prod.mk.injEq] at H;obtain ⟨rfl, rfl⟩ := H
  go_enter Try.func53, Try.ntmps53
  try go_wp2_with (first | ((with_reducible refine gd_ 1 rfl ?_); refine bx_ 1 #[.slice A0_0 l0_0.length c0_0, .slice A0_1 l0_1.length c0_1] 27 ?_; intro gb559 hg w4 hbox hb; have BK559 := A_ (hbox); have GW559 := A_ ((szl_ w hg (bw HB.out))); replace HB := A_ (below_step (bw HB.out) hb); have GE559 := GW559; clear hb hbox hg) | ((with_reducible refine gd_ 2 rfl ?_); refine bx_ 2 #[.slice none 0 0, .slice none 0 0] 27 ?_; intro gb560 hg w5 hbox hb; have BK560 := A_ (hbox); have GW560 := A_ ((szl_ w hg (bw1 HB.out GE559.out))); replace HB := A_ (below_step (bw1 HB.out GE559.out) hb); have GE560 := GW560; have NB559_560 := A_ ((nl_ hg (bL BK559.out))); have NB560_559 := A_ ((ng_ hg (bL BK559.out))); replace BK559 := A_ (bB BK559.out hb); clear hb hbox hg))
  replace BK559 := A_ (blk_drew BK559.out);replace BK560 := A_ (blk_drew BK560.out);replace HB := A_ (below_drew1 HB.out);refine start_ (n := 9) (S := fun w' => w'.cell? ⟨gb559, 0, none⟩ = some (.slice A0_0 l0_0.length c0_0) ∧ w'.cell? ⟨gb559, 1, none⟩ = some (.slice A0_1 l0_1.length c0_1)) (ds := []) (tb 9 0) (by kernel_rfl) rfl rfl ⟨bc BK559.out 0, bc BK559.out 1⟩ (fun hHeld => ?_); refine with_tabW impl_ownArena.tab1 impl_ownArena.bits1 (fun HT_ HW_ => ?_);generalize w5.drew = w6 at BK559 BK560 HB hHeld ⊢;refine pu_ 1 4 (tb 9 2) HT_.out rfl rfl ?_;refine pu_ 4 7 (tb 9 18) HT_.out rfl rfl ?_;refine tk_ (v := ?_) (a' := ?_) 2 5 (tb 9 22) HT_.out HW_.out rfl rfl hHeld ?_ ?_ ?_;rotate_left;(rintro w' ⟨s0, s1⟩;go_simp;with_reducible rfl);rotate_left;(simp only [Act.put, sx_, sy_, sz_, i64_w, i32_w];rfl);refine tk_ (v := ?_) (a' := ?_) 5 8 (tb 9 54) HT_.out HW_.out rfl rfl hHeld ?_ ?_ ?_;rotate_left;(rintro w' ⟨s0, s1⟩;go_simp;with_reducible rfl);rotate_left;(simp only [Act.put, sx_, sy_, sz_, i64_w, i32_w];rfl);refine one_ (i := 0) (N := some 3) (tb 9 55) rfl rfl (one_of HT_.out (by kernel_rfl)) (by decide) (fun K hK => ?_);refine Kd.R_lit_step k77 _ 77 ?hg (N := 3) ?hd (xs := ([] : List (S77))) (inner := []) (ok := fun _ => True) (okp := fun _ => True) ?hr ?hp (fun _ hk => hk) trivial (Below.refl _ _) (Nat.le_refl _) (by simp) ?_; (case hd => rfl); (case hg => rfl); (case hr => first | (go_simp; done) | (go_simp; rfl)); (case hp => exact (Reps.none _ _));intro v562 w7 ho8 hb hg_ hnew_;clear hg_ hnew_;(first | rw [← Ny561.out] at ho8 | (simp only [Int.reduceToNat] at ho8; rw [← Ny561.out] at ho8))
  have HO563 := A_ (Kd.R_lower ho8 (below_size (bw2 HB.out GE559.out GE560.out)));replace BK559 := A_ (bB BK559.out hb);replace BK560 := A_ (bB BK560.out hb);replace HB := A_ (below_step (bw2 HB.out GE559.out GE560.out) hb);clear hb ho8;refine hK.out _ _ ⟨bc BK559.out 0, bc BK559.out 1⟩ (fun hHeld => ?_);clear hK K;refine norm_ (a' := ?_) ?_ ?_;rotate_left;(show Act.put _ (some 3) _ = _;simp only [Act.put, sx_, sy_, sz_, i64_w, i32_w];rfl);refine one_ (i := 3) (N := some 6) (tb 9 63) rfl rfl (one_of HT_.out (by kernel_rfl)) (by decide) (fun K hK => ?_);refine Kd.R_append_rows_step k77 (w0 := w) w.heap.size (by rfl) (.tmp 3) (.tmp 5) 24 77 (.agg #[(.int .i64 0), (.bool false), (.int .i64 0), (.int .i64 0), (.int .i64 0)]) 40 rfl Try.underlying24 info77 rfl (by decide) (by omega) v562 y561 l0_0 _ _ _ (fun _ => True) (fun _ => False) rfl rfl ?aO ?aR (fun _ _ h => h) (fun _ h => h.elim) ?aF ?aB ?aS ?aL ?_
  (case aR => exact ck (Kd.C_below HR0_0.out HB.out))
  (case aB => exact (bw2 HB.out GE559.out GE560.out))
  (case aF => exact (fun _ _ => trivial))
  (case aO => exact (rk HO563.out))
  (case aS => exact (below_size (bw2 HB.out GE559.out GE560.out)))
  (case aL => have := LMc2.out; omega)
  intro v565 w9 ho hb hg hat;rw [← Ny564.out] at ho;replace BK559 := A_ (blk_grown (g := gb559) (o := .cells #[.slice A0_0 l0_0.length c0_0, .slice A0_1 l0_1.length c0_1] 27 (0, 0)) (bk BK559.out) hg (Kd.R_ne HO563.out BK559.out (by decide)));replace BK560 := A_ (blk_grown (g := gb560) (o := .cells #[.slice none 0 0, .slice none 0 0] 27 (0, 0)) (bk BK560.out) hg (Kd.R_ne HO563.out BK560.out (by decide)));replace HB := A_ (hb);have HO566 := A_ (ho);clear HO563;clear ho hb hg hat;refine hK.out _ _ ⟨bc BK559.out 0, bc BK559.out 1⟩ (fun hHeld => ?_);clear hK K;refine norm_ (a' := ?_) ?_ ?_;rotate_left;(show Act.put _ (some 6) _ = _;simp only [Act.put, sx_, sy_, sz_, i64_w, i32_w];rfl);refine one_ (i := 6) (N := some 9) (tb 9 127) rfl rfl (one_of HT_.out (by kernel_rfl)) (by decide) (fun K hK => ?_);refine goes_ Try.func87 (by kernel_rfl) rfl #[.slice A0_1 l0_1.length c0_1] (by rfl) rfl rfl gl ?_
  with_reducible refine (impl_own.calls _ _ l0_1 t567 _ ?side1 ?side2 A3.out).mono ?_
  (case side1 => exact ck (Kd.C_below HR0_1.out HB.out))
  (case side2 => exact HC0_1.out)
  rintro e w10 ⟨v568, rfl, ho0, hb⟩;refine ⟨_, rfl, ?_⟩;replace HO566 := A_ (Kd.R_below (rk HO566.out) hb);have HO569 := A_ (Kd.R_lower ho0 (below_size (bw2 HB.out GE559.out GE560.out)));replace BK559 := A_ (bB BK559.out hb);replace BK560 := A_ (bB BK560.out hb);replace HB := A_ (below_step (bw2 HB.out GE559.out GE560.out) hb);(try clear hb);(try clear ho0);obtain ⟨Ao11, co11, eo11⟩ := Kd.R_slice HO569.out;(first | subst eo11 | (injection eo11 with f1_ f2_ f3_; have f4_ := f1_.symm; have f5_ := f3_.symm; clear f1_ f2_ f3_; subst f4_; subst f5_))
  obtain ⟨Ao12, co12, eo12⟩ := Kd.R_slice HO566.out;(first | subst eo12 | (injection eo12 with f1_ f2_ f3_; have f4_ := f1_.symm; have f5_ := f3_.symm; clear f1_ f2_ f3_; subst f4_; subst f5_))
  refine hK.out _ _ ⟨bc BK559.out 0, bc BK559.out 1⟩ (fun hHeld => ?_);clear hK K;refine norm_ (a' := ?_) ?_ ?_;rotate_left;(show Act.put _ (some 9) _ = _;simp only [Act.put, sx_, sy_, sz_, i64_w, i32_w];rfl);refine pu_ 7 10 (tb 9 255) HT_.out rfl rfl ?_;refine one_ (i := 8) (N := none) (tb 9 511) rfl rfl (one_of HT_.out (by kernel_rfl)) (by decide) (fun K hK => ?_);have hs13 : w10.cell? ⟨gb560, 0, none⟩ = some (.slice none 0 0) := bc BK560.out 0;have hfs13 := blk_frozen BK560.out 0;have hns13_0 := NB559_560.out;have hms13_0 := NB560_559.out;have hs14 : w10.cell? ⟨gb560, 1, none⟩ = some (.slice none 0 0) := bc BK560.out 1;have hfs14 := blk_frozen BK560.out 1;have hns14_0 := NB559_560.out;have hms14_0 := NB560_559.out;refine skip_ (w1 := ?_) (by rfl) rfl ?_ ?_;rotate_left
  ·go_simp
   rfl
  refine hK.out _ _ ⟨((cell_far (p := ⟨gb560, _, none⟩) NB559_560.out _).trans (((cell_far (p := ⟨gb560, _, none⟩) NB559_560.out _).trans (hHeld.1)))), ((cell_far (p := ⟨gb560, _, none⟩) NB559_560.out _).trans (((cell_far (p := ⟨gb560, _, none⟩) NB559_560.out _).trans (hHeld.2))))⟩ (fun hHeld => ?_);clear hK K;refine done_ (done_of HT_.out (by kernel_rfl)) ?_
  try go_wp2
  refine bodyPost_ret (results_cell_row rfl _ _ gb560 27 #[.slice Ao12 y564.length co12, .slice Ao11 t567.length co11] (0, 0) _ rfl (bp BK560.out) Try.underlying27 rfl (by kernel_rfl)) rfl ?_;exact ⟨_, _, er, by refine pl ?_;exact Kd.R_mono (Kd.R_far (Kd.R_far (Kd.R_types HO566.out BK560.out (by decide)) (fun _ hk => hk.2) _) (fun _ hk => hk.2) _) (fun _ hk => trivial), by refine pl ?_;exact Kd.R_mono (Kd.R_far (Kd.R_far (Kd.R_types HO569.out BK560.out (by decide)) (fun _ hk => hk.2) _) (fun _ hk => hk.2) _) (fun _ hk => trivial), bw2 HB.out GE559.out GE560.out⟩
 ·rw [if_neg c2] at H
  exact absurd H (by simp)


end Go.Proofs.Ytemdjfiimgjiaaa.R
