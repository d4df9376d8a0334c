/- What the Go functions that the law FnExactPass reaches compute, as plain Lean functions, and that their calls come to just that. Conditions: those that each theorem states. Written by the session's program. -/
import Derived.Test.YtemdjfiimgjiaaaVFnExactPassB
import Derived.Test.YtemdjfiimgjiaaaVFnExactPass3
namespace Go.Proofs.Ytemdjfiimgjiaaa.S
open Go.Proofs.Ytemdjfiimgjiaaa.Sq
open Go.RowKit Go.Proofs.YtemdjfiimgjiaaaW.PrintWords Go.Proofs.YtemdjfiimgjiaaaW.PrintLast Go.Proofs.YtemdjfiimgjiaaaW.PrintMore
attribute [local go_sem] max2_int min2_int max_two min_two max_three min_three max_four min_four   -- for this text's walks alone
set_option linter.unusedVariables false
set_option linter.unusedSimpArgs false

def laws_szYard.f (l0_0 : List (S114)) (l0_1 : List Int) (l0_2 : List Int) (l0_3 : List (S109)) (a0_4 : Int) (a1 : Int) : Option (Int) := (laws_szArena.f l0_0 l0_1 a1).bind fun t304 => (if t304 < 0 then (some (-1)) else ((laws_szIntS.f l0_2 t304).bind fun t305 => (if t305 < 0 then (some (-1)) else ((laws_szGoneS.f l0_3 t305).bind fun t306 => (if t306 < 0 then (some (-1)) else (some t306))))))
set_option maxHeartbeats 8000000 in
set_option maxRecDepth 100000 in
theorem laws_szYard.calls (A0_0 : Option Addr) (c0_0 : Nat) (l0_0 : List (S114)) (A0_1 : Option Addr) (c0_1 : Nat) (l0_1 : List Int) (A0_2 : Option Addr) (c0_2 : Nat) (l0_2 : List Int) (A0_3 : Option Addr) (c0_3 : Nat) (l0_3 : List (S109)) (a0_4 : Int) (a1 : Int) (r : Int) (w : World) (hr0_0 : Kd.C k114 w A0_0 l0_0.length l0_0) (hc0_0 : l0_0.length ≤ c0_0) (hr0_1 : Kd.C (Kd.int .i64) w A0_1 l0_1.length l0_1) (hc0_1 : l0_1.length ≤ c0_1) (hr0_2 : Kd.C (Kd.int .i64) w A0_2 l0_2.length l0_2) (hc0_2 : l0_2.length ≤ c0_2) (hr0_3 : Kd.C k109 w A0_3 l0_3.length l0_3) (hc0_3 : l0_3.length ≤ c0_3) (h : laws_szYard.f l0_0 l0_1 l0_2 l0_3 a0_4 a1 = some r) :
  Calls Try.prog 30 #[.agg #[.slice A0_0 l0_0.length c0_0, .slice A0_1 l0_1.length c0_1, .slice A0_2 l0_2.length c0_2, .slice A0_3 l0_3.length c0_3, .int .i64 a0_4], .int .i64 a1] w fun e w' => e = .returned (.int .i64 r) ∧ Below w.heap.size w w' := by
 have hu56 := Try.underlying56;have hu53 := Try.underlying53;have HR0_0 := Aside0.mk hr0_0;have HC0_0 := Aside0.mk hc0_0;clear hr0_0 hc0_0;have HR0_1 := Aside0.mk hr0_1;have HC0_1 := Aside0.mk hc0_1;clear hr0_1 hc0_1;have HR0_2 := Aside0.mk hr0_2;have HC0_2 := Aside0.mk hc0_2;clear hr0_2 hc0_2;have HR0_3 := Aside0.mk hr0_3;have HC0_3 := Aside0.mk hc0_3;clear hr0_3 hc0_3;have HB := Aside0.mk (Below.refl w.heap.size w);have H : ((laws_szArena.f l0_0 l0_1 a1).bind fun t275 => (if t275 < 0 then (some (-1)) else ((laws_szIntS.f l0_2 t275).bind fun t276 => (if t276 < 0 then (some (-1)) else ((laws_szGoneS.f l0_3 t276).bind fun t277 => (if t277 < 0 then (some (-1)) else (some t277))))))) = some r := h;clear h;replace H := bO_ H;obtain ⟨t275, A3, H⟩ := H;have HC4 := Aside0.mk H;clear H
 go_enter Try.func30, Try.ntmps30
 go_upto_if 10 with (first | ((with_reducible refine gate_dst (N := 2) rfl ?_); refine box_event ?hg (N := 2) ?hd (cs := #[.slice A0_0 l0_0.length c0_0, .slice A0_1 l0_1.length c0_1, .slice A0_2 l0_2.length c0_2, .slice A0_3 l0_3.length c0_3, .int .i64 a0_4]) (t := 56) ?hr ?_; (case hd => rfl); (case hg => rfl); (case hr => first | (go_simp; done) | (go_simp; rfl)); intro gb274 hg w5 hbox hb; have qB_ := bS_ (bw HB.out) hb; replace HB := Aside0.mk (qB_.2); have BK274 := Aside0.mk (hbox); have GW274 := Aside0.mk ((by rw [hg]; exact qB_.1 : w.heap.size ≤ gb274)); have GE274 := GW274; clear qB_; clear hb hbox hg; obtain ⟨hcz6_0, hcz6_1, hcz6_2, hcz6_3, hcz6_4, hfz6_0, hfz6_1, hfz6_2, hfz6_3, hfz6_4⟩ := cs5_ BK274.out) | ((with_reducible refine gate_callee (f := 65) rfl ?_); refine goesL_ (some 8) rfl rfl Try.func65 (by kernel_rfl) rfl #[.agg #[.slice A0_0 l0_0.length c0_0, .slice A0_1 l0_1.length c0_1], .int .i64 a1] rfl gl ?_; (with_reducible refine (laws_szArena.calls _ _ l0_0 _ _ l0_1 a1 t275 _ ?side1 ?side2 ?side3 ?side4 A3.out).mono ?_); (case side1 => exact ck (Kd.C_below HR0_0.out HB.out)); (case side2 => exact HC0_0.out); (case side3 => exact ck (Kd.C_below HR0_1.out HB.out)); (case side4 => exact HC0_1.out); rintro e w7 ⟨rfl, hb⟩; refine ⟨_, rfl, ?_⟩; replace BK274 := Aside0.mk (bB BK274.out hb); replace HB := Aside0.mk (below_step (bw1 HB.out GE274.out) hb); clear hb))
 (try simp only [Act.put, sx_, sy_, sz_])
 have H := HC4.out;clear HC4
 by_cases c8 : t275 < 0
 ·rw [if_pos c8] at H
  have c8b0 : decide (t275 < 0) = true := decide_eq_true c8;clear c8;(first | rw [c8b0] | (simp only [i64_w, i32_w]; rw [c8b0]) | skip)
  obtain rfl := Option.some.inj H;go_wp2
  go_ret
  exact ⟨er, bw1 HB.out GE274.out⟩
 ·rw [if_neg c8] at H
  have c8b0 : decide (t275 < 0) = false := decide_eq_false c8;clear c8;(first | rw [c8b0] | (simp only [i64_w, i32_w]; rw [c8b0]) | skip)
  replace H := bO_ H;obtain ⟨t276, A9, H⟩ := H;have HC10 := Aside0.mk H;clear H;obtain ⟨hcz11_0, hcz11_1, hcz11_2, hcz11_3, hcz11_4, hfz11_0, hfz11_1, hfz11_2, hfz11_3, hfz11_4⟩ := cs5_ BK274.out
  go_upto_if 16 with (first | ((with_reducible refine gate_callee (f := 66) rfl ?_); refine goesL_ (some 14) rfl rfl Try.func66 (by kernel_rfl) rfl #[.slice A0_2 l0_2.length c0_2, .int .i64 t275] rfl gl ?_; (with_reducible refine (laws_szIntS.calls _ _ l0_2 t275 t276 _ ?side1 ?side2 A9.out).mono ?_); (case side1 => exact ck (Kd.C_below HR0_2.out HB.out)); (case side2 => exact HC0_2.out); rintro e w' ⟨rfl, ⟨nd, rfl⟩⟩; refine ⟨_, rfl, ?_⟩))
  (try simp only [Act.put, sx_, sy_, sz_])
  have H := HC10.out;clear HC10
  by_cases c12 : t276 < 0
  ·rw [if_pos c12] at H
   have c12b0 : decide (t276 < 0) = true := decide_eq_true c12;clear c12;(first | rw [c12b0] | (simp only [i64_w, i32_w]; rw [c12b0]) | skip)
   obtain rfl := Option.some.inj H;go_wp2
   go_ret
   exact ⟨er, bw1 HB.out GE274.out⟩
  ·rw [if_neg c12] at H
   have c12b0 : decide (t276 < 0) = false := decide_eq_false c12;clear c12;(first | rw [c12b0] | (simp only [i64_w, i32_w]; rw [c12b0]) | skip)
   replace H := bO_ H;obtain ⟨t277, A13, H⟩ := H;have HC14 := Aside0.mk H;clear H;obtain ⟨hcz15_0, hcz15_1, hcz15_2, hcz15_3, hcz15_4, hfz15_0, hfz15_1, hfz15_2, hfz15_3, hfz15_4⟩ := cs5_ BK274.out
   go_upto_if 22 with (first | ((with_reducible refine gate_callee (f := 67) rfl ?_); refine goesL_ (some 20) rfl rfl Try.func67 (by kernel_rfl) rfl #[.slice A0_3 l0_3.length c0_3, .int .i64 t276] rfl gl ?_; (with_reducible refine (laws_szGoneS.calls _ _ l0_3 t276 t277 _ ?side1 ?side2 A13.out).mono ?_); (case side1 => exact ck (Kd.C_below HR0_3.out HB.out)); (case side2 => exact HC0_3.out); rintro e w' ⟨rfl, ⟨nd, rfl⟩⟩; refine ⟨_, rfl, ?_⟩))
   (try simp only [Act.put, sx_, sy_, sz_])
   have H := HC14.out;clear HC14
   by_cases c16 : t277 < 0
   ·rw [if_pos c16] at H
    have c16b0 : decide (t277 < 0) = true := decide_eq_true c16;clear c16;(first | rw [c16b0] | (simp only [i64_w, i32_w]; rw [c16b0]) | skip)
    obtain rfl := Option.some.inj H;go_wp2
    go_ret
    exact ⟨er, bw1 HB.out GE274.out⟩
   ·rw [if_neg c16] at H
    have c16b0 : decide (t277 < 0) = false := decide_eq_false c16;clear c16;(first | rw [c16b0] | (simp only [i64_w, i32_w]; rw [c16b0]) | skip)
    obtain rfl := Option.some.inj H;go_wp2
    go_ret
    exact ⟨er, bw1 HB.out GE274.out⟩

def laws_toIntS.l0 : Nat → List Int → List Int → Int → Option (List Int)
 | 0, _, _, _ => none
 | k + 1, x0, x3, x4 => if x4 < (x0.length : Int) then (if 0 ≤ x4 then (if x4 < (x3.length : Int) then (laws_toIntS.l0 k x0 (x3.set (x4 : Int).toNat (rd x0 x4)) (wrap64 (x4 + 1))) else (none)) else (none)) else (some x3)
def laws_toIntS.f (k : Nat) (l0 : List Int) : Option (List Int) := if 0 ≤ (l0.length : Int) then (if ((l0.length : Int) : Int).toNat ≤ 35184372088832 then (laws_toIntS.l0 k l0 (List.replicate ((l0.length : Int) : Int).toNat 0) 0) else (none)) else (none)
set_option maxHeartbeats 8000000 in
set_option maxRecDepth 100000 in
theorem laws_toIntS.calls (k : Nat) (A0 : Option Addr) (c0 : Nat) (l0 : List Int) (r : List Int) (w : World) (hr0 : Kd.C (Kd.int .i64) w A0 l0.length l0) (hc0 : l0.length ≤ c0) (h : laws_toIntS.f k l0 = some r) :
  Calls Try.prog 73 #[.slice A0 l0.length c0] w fun e w' => ∃ v0_ : Value, e = .returned (v0_) ∧ Kd.R (Kd.int .i64) 3 w' w.heap.size (fun _ => True) v0_ r ∧ Below w.heap.size w w' := by
 have HR0 := Aside0.mk hr0;have HC0 := Aside0.mk hc0;clear hr0 hc0;have HB := Aside0.mk (Below.refl w.heap.size w);have H : (if 0 ≤ (l0.length : Int) then (if ((l0.length : Int) : Int).toNat ≤ 35184372088832 then (laws_toIntS.l0 k l0 (List.replicate ((l0.length : Int) : Int).toNat 0) 0) else (none)) else (none)) = some r := h;clear h
 by_cases c2 : 0 ≤ (l0.length : Int)
 ·rw [if_pos c2] at H
  have c2b0 := eq_true c2;have c2b1 : decide (0 ≤ (l0.length : Int)) = true := decide_eq_true c2;clear c2
  by_cases c3 : ((l0.length : Int) : Int).toNat ≤ 35184372088832
  ·rw [if_pos c3] at H
   have c3b0 := eq_true c3;have c3b1 : decide (((l0.length : Int) : Int).toNat ≤ 35184372088832) = true := decide_eq_true c3;clear c3;obtain ⟨y278, hy278⟩ : ∃ y_ : List Int, y_ = (List.replicate ((l0.length : Int) : Int).toNat 0) := ⟨_, rfl⟩;replace H : (laws_toIntS.l0 k l0 y278 0) = some r := by first | (rw [hy278]; with_reducible exact H) | (have H2_ := (Option.bind_some _ _).symm.trans H; rw [hy278]; with_reducible exact H2_) | (have H2_ := (Option.bind_some _ _).symm.trans H; with_reducible exact H2_) | with_reducible exact H | (rw [hy278]; exact H) | exact H
   have Ny278 := Aside0.mk hy278;clear hy278;have H' := Aside0.mk H;clear H
   go_enter Try.func73, Try.ntmps73
   go_wp2_with (first | ((with_reducible refine gate_dst (N := 7) rfl ?_); refine Kd.R_make (Kd.int .i64) _ 3 rfl (N := 7) rfl 25 _ _ rfl (l0.length : Int) rfl rfl Try.underlying25 (.int .i64 0) 8 info3 rfl (by decide) (by omega) 0 (ok := fun _ => True) (okp := fun _ => True) rfl (fun _ hk => hk) trivial (oa) (Nat.le_trans (Nat.mul_le_mul_right _ (oa : (l0.length : Int).toNat ≤ 35184372088832)) (by omega)) (Below.refl _ _) (Nat.le_refl _) ?_; intro v279 w4 ho5 hb hg_ hnew_; clear hg_ hnew_; (first | rw [← Ny278.out] at ho5 | (simp only [Int.reduceToNat] at ho5; rw [← Ny278.out] at ho5)); have qB_ := bS_ (bw HB.out) hb; have HO280 := Aside0.mk (Kd.R_lower ho5 qB_.1); replace HB := Aside0.mk (qB_.2); clear qB_; clear hb ho5))
   go_loopg [4] k (fun kq v4 w' => ∃ (x3_1 : List Int) (x4_1 : Int), v4 = .int .i64 x4_1 ∧ Aside0 (laws_toIntS.l0 kq l0 x3_1 x4_1 = some r) ∧ Aside0 (kq ≤ k) ∧ Aside0 (Kd.R (Kd.int .i64) 3 w' w.heap.size (fun _ => True) v279 x3_1) ∧ Aside0 (Below w.heap.size w w'))
   case atStart => exact ⟨(y278), (0), (by first | rfl | (simp; done) | (simp [*]; done)), H', ⟨Nat.le_refl _⟩, ⟨rk HO280.out⟩, ⟨bw HB.out⟩⟩
   case round =>
    clear H'
    skip
    obtain ⟨x3_1, x4_1, rfl, HA, HK1, HO_3, HB⟩ := hrel;cases gk with
    | zero => exact absurd HA.out (by simp [laws_toIntS.l0])
    | succ k1 =>
     have H := HA.out;clear HA;simp only [laws_toIntS.l0] at H
     by_cases c6 : x4_1 < (l0.length : Int)
     ·rw [if_pos c6] at H
      have c6b0 : decide (x4_1 < (l0.length : Int)) = true := decide_eq_true c6;clear c6
      by_cases c7 : 0 ≤ x4_1
      ·rw [if_pos c7] at H
       have c7b0 : decide (0 ≤ x4_1) = true := decide_eq_true c7;clear c7
       by_cases c8 : x4_1 < (x3_1.length : Int)
       ·rw [if_pos c8] at H
        have c8b0 : decide (x4_1 < (x3_1.length : Int)) = true := decide_eq_true c8;clear c8;obtain ⟨y282, hy282⟩ : ∃ y_ : List Int, y_ = (x3_1.set (x4_1 : Int).toNat (rd l0 x4_1)) := ⟨_, rfl⟩;replace H : (laws_toIntS.l0 k1 l0 y282 (wrap64 (x4_1 + 1))) = some r := by first | (rw [hy282]; with_reducible exact H) | (have H2_ := (Option.bind_some _ _).symm.trans H; rw [hy282]; with_reducible exact H2_) | (have H2_ := (Option.bind_some _ _).symm.trans H; with_reducible exact H2_) | with_reducible exact H | (rw [hy282]; exact H) | exact H
        have Ny282 := Aside0.mk hy282;clear hy282;have H' := Aside0.mk H;clear H;have p281 : 0 ≤ (x4_1 : Int) := oa;have q281 : x4_1 < (l0.length : Int) := oa;obtain ⟨ad281, e281, hx281_0⟩ := Kd.at_int HR0.out x4_1 p281 q281;cases e281;replace hx281_0 := (HB.out.cell (World.block_lt_of_cell? w _ hx281_0)).trans hx281_0;replace p281 := eq_true p281;replace q281 := eq_true q281;have p9 : 0 ≤ (x4_1 : Int) := oa;have q9 : (x4_1 : Int) < ((x3_1.length : Int) : Int) := oa;obtain ⟨go9, co9, eo9, gb9, gl9, cl9, HG9⟩ := Kd.R_form HO_3.out (by omega);(first | cases eo9 | (injection eo9 with ea_ en_ ec_; (first | subst ea_ | (injection ea_ with ea_; subst ea_)); subst ec_; clear en_))
        have GB9 := Aside0.mk gb9;have GG9 := Aside0.mk HG9;clear gb9 gl9 HG9;obtain ⟨hx9_0, hf9_0⟩ := Kd.R_celln 0 HO_3.out (x4_1 : Int) p9 q9;replace p9 := eq_true p9;replace q9 := eq_true q9;have HP10 := Kd.R_putg HO_3.out (x4_1 : Int) (rd l0 x4_1)
        go_wp2_with (first | ((with_reducible refine gate_store (t := 3) (p := 20) rfl ?_); refine store_event (t := 3) (p := 20) (v := ?vo_w11) (w1 := (wr.setCell ⟨go9, (x4_1 : Int).toNat, none⟩ (.int .i64 (rd l0 x4_1)))) ?hg ?ho ?hn ?hr ?_; (case ho => rfl); (case hg => rfl); (case hn => rfl); (case hr => first | (go_simp; done) | (go_simp; rfl)); intro w11 hw; have hg : wr.grownBy w11 (some go9) := (by rw [hw]; exact HP10.2); have hp_ : Kd.R (Kd.int .i64) 3 w11 w.heap.size (fun _ => True) (.slice (some ⟨go9, 0, none⟩) x3_1.length co9) y282 := (by rw [hw, Ny282.out]; exact HP10.1); clear HP10; replace HO_3 := Aside0.mk (hp_); replace HB := Aside0.mk ((by rw [hw]; exact below_set (HB.out) GB9.out : Below w.heap.size w w11)); clear hg hw hp_))
        go_roundg k1
        case measure => have := HK1.out; omega
        case rel => exact ⟨(y282), (wrap64 (x4_1 + 1)), (by first | rfl | (simp; done) | (simp [*]; done)), H', ⟨by have := HK1.out; omega⟩, ⟨rk HO_3.out⟩, ⟨bw HB.out⟩⟩
       ·rw [if_neg c8] at H
        exact absurd H (by simp)
      ·rw [if_neg c7] at H
       exact absurd H (by simp)
     ·rw [if_neg c6] at H
      have c6b0 : decide (x4_1 < (l0.length : Int)) = false := decide_eq_false c6;clear c6;obtain rfl := Option.some.inj H;go_wp2
      go_ret
      exact ⟨_, er, by (with_reducible repeat (first | apply Kd.R_alloc | apply Kd.R_drewN | apply Kd.R_drew)); exact HO_3.out, bw HB.out⟩
  ·rw [if_neg c3] at H
   exact absurd H (by simp)
 ·rw [if_neg c2] at H
  exact absurd H (by simp)

def laws_toIntA3.l0 : Nat → Int → Int → Int → Int → Int → Int → Int → Option (Int × Int × Int)
 | 0, _, _, _, _, _, _, _ => none
 | k + 1, x4, x313000, x313001, x313002, x315000, x315001, x315002 => if x4 < 3 then (if x4 = 0 then (laws_toIntA3.l0 k (wrap64 (x4 + 1)) x313000 x313001 x313002 x313000 x315001 x315002) else (if x4 = 1 then (laws_toIntA3.l0 k (wrap64 (x4 + 1)) x313000 x313001 x313002 x315000 x313001 x315002) else (if x4 = 2 then (laws_toIntA3.l0 k (wrap64 (x4 + 1)) x313000 x313001 x313002 x315000 x315001 x313002) else (none)))) else (some (x315000, x315001, x315002))
def laws_toIntA3.f (k : Nat) (a0_0 : Int) (a0_1 : Int) (a0_2 : Int) : Option (Int × Int × Int) := laws_toIntA3.l0 k 0 a0_0 a0_1 a0_2 0 0 0
set_option maxHeartbeats 8000000 in
set_option maxRecDepth 100000 in
theorem laws_toIntA3.calls (k : Nat) (a0_0 : Int) (a0_1 : Int) (a0_2 : Int) (r1 : Int) (r2 : Int) (r3 : Int) (w : World) (h : laws_toIntA3.f k a0_0 a0_1 a0_2 = some (r1, r2, r3)) :
  Calls Try.prog 106 #[.agg #[.int .i64 a0_0, .int .i64 a0_1, .int .i64 a0_2]] w fun e w' => e = .returned (.agg #[.int .i64 r1, .int .i64 r2, .int .i64 r3]) ∧ Below w.heap.size w w' := by
 have hu75 := Try.underlying75;have HB := Aside0.mk (Below.refl w.heap.size w);have H : (laws_toIntA3.l0 k 0 a0_0 a0_1 a0_2 0 0 0) = some (r1, r2, r3) := h;clear h;have H' := Aside0.mk H;clear H
 go_enter Try.func106, Try.ntmps106
 go_wp2_with (first | ((with_reducible refine gate_dst (N := 1) rfl ?_); refine box_event ?hg (N := 1) ?hd (cs := #[.int .i64 a0_0, .int .i64 a0_1, .int .i64 a0_2]) (t := 75) ?hr ?_; (case hd => rfl); (case hg => rfl); (case hr => first | (go_simp; done) | (go_simp; rfl)); intro gb283 hg w2 hbox hb; have qB_ := bS_ (bw HB.out) hb; replace HB := Aside0.mk (qB_.2); have BK283 := Aside0.mk (hbox); have GW283 := Aside0.mk ((by rw [hg]; exact qB_.1 : w.heap.size ≤ gb283)); have GE283 := GW283; clear qB_; clear hb hbox hg) | ((with_reducible refine gate_dst (N := 2) rfl ?_); refine box_event ?hg (N := 2) ?hd (cs := #[.int .i64 0, .int .i64 0, .int .i64 0]) (t := 75) ?hr ?_; (case hd => rfl); (case hg => rfl); (case hr => first | (go_simp; done) | (go_simp; rfl)); intro gb284 hg w3 hbox hb; have qB_ := bS_ (bw1 HB.out GE283.out) hb; replace HB := Aside0.mk (qB_.2); have BK284 := Aside0.mk (hbox); have GW284 := Aside0.mk ((by rw [hg]; exact qB_.1 : w.heap.size ≤ gb284)); have GE284 := GW284; have NB283_284 := Aside0.mk ((by rw [hg]; exact Nat.ne_of_lt (bL BK283.out) : gb283 ≠ gb284)); have NB284_283 := Aside0.mk ((by rw [hg]; exact Nat.ne_of_gt (bL BK283.out) : gb284 ≠ gb283)); replace BK283 := Aside0.mk (bB BK283.out hb); clear qB_; clear hb hbox hg) | ((with_reducible refine gate_dst (N := 3) rfl ?_); refine box_event ?hg (N := 3) ?hd (cs := #[.int .i64 0, .int .i64 0, .int .i64 0]) (t := 75) ?hr ?_; (case hd => rfl); (case hg => rfl); (case hr => first | (go_simp; done) | (go_simp; rfl)); intro gb285 hg w4 hbox hb; have qB_ := bS_ (bw2 HB.out GE283.out GE284.out) hb; replace HB := Aside0.mk (qB_.2); have BK285 := Aside0.mk (hbox); have GW285 := Aside0.mk ((by rw [hg]; exact qB_.1 : w.heap.size ≤ gb285)); have GE285 := GW285; have NB283_285 := Aside0.mk ((by rw [hg]; exact Nat.ne_of_lt (bL BK283.out) : gb283 ≠ gb285)); have NB285_283 := Aside0.mk ((by rw [hg]; exact Nat.ne_of_gt (bL BK283.out) : gb285 ≠ gb283)); replace BK283 := Aside0.mk (bB BK283.out hb); have NB284_285 := Aside0.mk ((by rw [hg]; exact Nat.ne_of_lt (bL BK284.out) : gb284 ≠ gb285)); have NB285_284 := Aside0.mk ((by rw [hg]; exact Nat.ne_of_gt (bL BK284.out) : gb285 ≠ gb284)); replace BK284 := Aside0.mk (bB BK284.out hb); clear qB_; clear hb hbox hg))
 go_loopg [4] k (fun kq v4 w' => ∃ (x4_1 : Int) (x286000_1 : Int) (x286001_1 : Int) (x286002_1 : Int), v4 = .int .i64 x4_1 ∧ Aside0 (laws_toIntA3.l0 kq x4_1 a0_0 a0_1 a0_2 x286000_1 x286001_1 x286002_1 = some (r1, r2, r3)) ∧ Aside0 (kq ≤ k) ∧ Aside0 (w'.heap[gb283]? = some (.cells #[.int .i64 a0_0, .int .i64 a0_1, .int .i64 a0_2] 75 (0, 0))) ∧ Aside0 (w'.heap[gb284]? = some (.cells #[.int .i64 0, .int .i64 0, .int .i64 0] 75 (0, 0))) ∧ Aside0 (w'.heap[gb285]? = some (.cells #[.int .i64 x286000_1, .int .i64 x286001_1, .int .i64 x286002_1] 75 (0, 0))) ∧ Aside0 (Below w.heap.size w w'))
 case atStart => exact ⟨(0), (0), (0), (0), (by first | rfl | (simp; done) | (simp [*]; done)), H', ⟨Nat.le_refl _⟩, ⟨bk BK283.out⟩, ⟨bk BK284.out⟩, ⟨bk BK285.out⟩, ⟨bw3 HB.out GE283.out GE284.out GE285.out⟩⟩
 case round =>
  clear H'
  skip
  obtain ⟨x4_1, x286000_1, x286001_1, x286002_1, rfl, HA, HK1, BK283, BK284, BK285, HB⟩ := hrel;cases gk with
  | zero => exact absurd HA.out (by simp [laws_toIntA3.l0])
  | succ k1 =>
   have H := HA.out;clear HA;simp only [laws_toIntA3.l0] at H
   by_cases c5 : x4_1 < 3
   ·rw [if_pos c5] at H
    have c5b0 : decide (x4_1 < 3) = true := decide_eq_true c5;clear c5
    by_cases c6 : x4_1 = 0
    ·subst c6
     have H1 : (laws_toIntA3.l0 k1 (wrap64 (0 + 1)) a0_0 a0_1 a0_2 a0_0 x286001_1 x286002_1) = some (r1, r2, r3) := by rw [if_pos rfl] at H; exact H
     clear H;have H := H1;clear H1;have H' := Aside0.mk H;clear H;have hnb7 := NB283_284.out;have hnc7 := NB284_283.out;have hnb8 := NB283_285.out;have hnc8 := NB285_283.out;obtain ⟨hcz9_0, hcz9_1, hcz9_2, hfz9_0, hfz9_1, hfz9_2⟩ := cs3_ BK283.out;have hnb10 := NB285_284.out;have hnc10 := NB284_285.out;obtain ⟨hcz11_0, hcz11_1, hcz11_2, hfz11_0, hfz11_1, hfz11_2⟩ := cs3_ BK285.out;go_wp2
     go_roundg k1
     case measure => have := HK1.out; omega
     case rel => exact ⟨(wrap64 (0 + 1)), (a0_0), (x286001_1), (x286002_1), (by first | rfl | (simp; done) | (simp [*]; done) | (simp [wrap64]; done)), H', ⟨by have := HK1.out; omega⟩, ⟨by (with_reducible repeat (first | refine blk_drewN ?_ _ | refine blk_drew ?_ | refine blk_alloc ?_ _)); refine blk_far ?_ NB283_285.out _; (with_reducible repeat (first | refine blk_drewN ?_ _ | refine blk_drew ?_ | refine blk_alloc ?_ _)); exact BK283.out⟩, ⟨by (with_reducible repeat (first | refine blk_drewN ?_ _ | refine blk_drew ?_ | refine blk_alloc ?_ _)); refine blk_far ?_ NB284_285.out _; (with_reducible repeat (first | refine blk_drewN ?_ _ | refine blk_drew ?_ | refine blk_alloc ?_ _)); exact BK284.out⟩, ⟨by (with_reducible repeat (first | refine blk_drewN ?_ _ | refine blk_drew ?_ | refine blk_alloc ?_ _)); refine blk_put (cs := #[.int .i64 x286000_1, .int .i64 x286001_1, .int .i64 x286002_1]) ?_ 0 _ rfl; (with_reducible repeat (first | refine blk_drewN ?_ _ | refine blk_drew ?_ | refine blk_alloc ?_ _)); exact BK285.out⟩, ⟨bw3 HB.out GE283.out GE284.out GE285.out⟩⟩
    ·rw [if_neg c6] at H
     clear c6
     by_cases c12 : x4_1 = 1
     ·subst c12
      have H1 : (laws_toIntA3.l0 k1 (wrap64 (1 + 1)) a0_0 a0_1 a0_2 x286000_1 a0_1 x286002_1) = some (r1, r2, r3) := by rw [if_pos rfl] at H; exact H
      clear H;have H := H1;clear H1;have H' := Aside0.mk H;clear H;have hnb13 := NB283_284.out;have hnc13 := NB284_283.out;have hnb14 := NB283_285.out;have hnc14 := NB285_283.out;obtain ⟨hcz15_0, hcz15_1, hcz15_2, hfz15_0, hfz15_1, hfz15_2⟩ := cs3_ BK283.out;have hnb16 := NB285_284.out;have hnc16 := NB284_285.out;obtain ⟨hcz17_0, hcz17_1, hcz17_2, hfz17_0, hfz17_1, hfz17_2⟩ := cs3_ BK285.out;go_wp2
      go_roundg k1
      case measure => have := HK1.out; omega
      case rel => exact ⟨(wrap64 (1 + 1)), (x286000_1), (a0_1), (x286002_1), (by first | rfl | (simp; done) | (simp [*]; done) | (simp [wrap64]; done)), H', ⟨by have := HK1.out; omega⟩, ⟨by (with_reducible repeat (first | refine blk_drewN ?_ _ | refine blk_drew ?_ | refine blk_alloc ?_ _)); refine blk_far ?_ NB283_285.out _; (with_reducible repeat (first | refine blk_drewN ?_ _ | refine blk_drew ?_ | refine blk_alloc ?_ _)); exact BK283.out⟩, ⟨by (with_reducible repeat (first | refine blk_drewN ?_ _ | refine blk_drew ?_ | refine blk_alloc ?_ _)); refine blk_far ?_ NB284_285.out _; (with_reducible repeat (first | refine blk_drewN ?_ _ | refine blk_drew ?_ | refine blk_alloc ?_ _)); exact BK284.out⟩, ⟨by (with_reducible repeat (first | refine blk_drewN ?_ _ | refine blk_drew ?_ | refine blk_alloc ?_ _)); refine blk_put (cs := #[.int .i64 x286000_1, .int .i64 x286001_1, .int .i64 x286002_1]) ?_ 1 _ rfl; (with_reducible repeat (first | refine blk_drewN ?_ _ | refine blk_drew ?_ | refine blk_alloc ?_ _)); exact BK285.out⟩, ⟨bw3 HB.out GE283.out GE284.out GE285.out⟩⟩
     ·rw [if_neg c12] at H
      clear c12
      by_cases c18 : x4_1 = 2
      ·subst c18
       have H1 : (laws_toIntA3.l0 k1 (wrap64 (2 + 1)) a0_0 a0_1 a0_2 x286000_1 x286001_1 a0_2) = some (r1, r2, r3) := by rw [if_pos rfl] at H; exact H
       clear H;have H := H1;clear H1;have H' := Aside0.mk H;clear H;have hnb19 := NB283_284.out;have hnc19 := NB284_283.out;have hnb20 := NB283_285.out;have hnc20 := NB285_283.out;obtain ⟨hcz21_0, hcz21_1, hcz21_2, hfz21_0, hfz21_1, hfz21_2⟩ := cs3_ BK283.out;have hnb22 := NB285_284.out;have hnc22 := NB284_285.out;obtain ⟨hcz23_0, hcz23_1, hcz23_2, hfz23_0, hfz23_1, hfz23_2⟩ := cs3_ BK285.out;go_wp2
       go_roundg k1
       case measure => have := HK1.out; omega
       case rel => exact ⟨(wrap64 (2 + 1)), (x286000_1), (x286001_1), (a0_2), (by first | rfl | (simp; done) | (simp [*]; done) | (simp [wrap64]; done)), H', ⟨by have := HK1.out; omega⟩, ⟨by (with_reducible repeat (first | refine blk_drewN ?_ _ | refine blk_drew ?_ | refine blk_alloc ?_ _)); refine blk_far ?_ NB283_285.out _; (with_reducible repeat (first | refine blk_drewN ?_ _ | refine blk_drew ?_ | refine blk_alloc ?_ _)); exact BK283.out⟩, ⟨by (with_reducible repeat (first | refine blk_drewN ?_ _ | refine blk_drew ?_ | refine blk_alloc ?_ _)); refine blk_far ?_ NB284_285.out _; (with_reducible repeat (first | refine blk_drewN ?_ _ | refine blk_drew ?_ | refine blk_alloc ?_ _)); exact BK284.out⟩, ⟨by (with_reducible repeat (first | refine blk_drewN ?_ _ | refine blk_drew ?_ | refine blk_alloc ?_ _)); refine blk_put (cs := #[.int .i64 x286000_1, .int .i64 x286001_1, .int .i64 x286002_1]) ?_ 2 _ rfl; (with_reducible repeat (first | refine blk_drewN ?_ _ | refine blk_drew ?_ | refine blk_alloc ?_ _)); exact BK285.out⟩, ⟨bw3 HB.out GE283.out GE284.out GE285.out⟩⟩
      ·rw [if_neg c18] at H
       clear c18;exact absurd H (by simp)
   ·rw [if_neg c5] at H
    have c5b0 : decide (x4_1 < 3) = false := decide_eq_false c5;clear c5;simp only [Option.some.injEq, Prod.mk.injEq] at H;obtain ⟨rfl, rfl, rfl⟩ := H;have hnb24 := NB285_283.out;have hnc24 := NB283_285.out;have hnb25 := NB285_284.out;have hnc25 := NB284_285.out;obtain ⟨hcz26_0, hcz26_1, hcz26_2, hfz26_0, hfz26_1, hfz26_2⟩ := cs3_ BK285.out;have hnb27 := NB284_283.out;have hnc27 := NB283_284.out;obtain ⟨hcz28_0, hcz28_1, hcz28_2, hfz28_0, hfz28_1, hfz28_2⟩ := cs3_ BK284.out;go_wp2
    refine bodyPost_ret (results_cell_row rfl _ _ gb284 75 #[.int .i64 x286000_1, .int .i64 x286001_1, .int .i64 x286002_1] (0, 0) _ rfl (by (with_reducible repeat (first | refine blk_drewN ?_ _ | refine blk_drew ?_ | refine blk_alloc ?_ _)); refine blk_put (cs := #[.int .i64 x286000_1, .int .i64 x286001_1, .int .i64 0]) ?_ 2 _ rfl; refine blk_put (cs := #[.int .i64 x286000_1, .int .i64 0, .int .i64 0]) ?_ 1 _ rfl; refine blk_put (cs := #[.int .i64 0, .int .i64 0, .int .i64 0]) ?_ 0 _ rfl; (with_reducible repeat (first | refine blk_drewN ?_ _ | refine blk_drew ?_ | refine blk_alloc ?_ _)); exact BK284.out) Try.underlying75 rfl (by kernel_rfl)) rfl ?_;exact ⟨er, bw3 HB.out GE283.out GE284.out GE285.out⟩

def laws_toBlock.f (k : Nat) (a0_0 : Int) (a0_1 : Bool) (a0_2 : Int) (a0_3 : Int) (a0_4 : Int) : Option (Int × Bool × Int × Int × Int) := (laws_toIntA3.f k a0_2 a0_3 a0_4).bind fun bt318 => (some (a0_0, a0_1, bt318.1, bt318.2.1, bt318.2.2))
set_option maxHeartbeats 8000000 in
set_option maxRecDepth 100000 in
theorem laws_toBlock.calls (k : Nat) (a0_0 : Int) (a0_1 : Bool) (a0_2 : Int) (a0_3 : Int) (a0_4 : Int) (r1 : Int) (r2 : Bool) (r3 : Int) (r4 : Int) (r5 : Int) (w : World) (h : laws_toBlock.f k a0_0 a0_1 a0_2 a0_3 a0_4 = some (r1, r2, r3, r4, r5)) :
  Calls Try.prog 104 #[.agg #[.int .i64 a0_0, .bool a0_1, .int .i64 a0_2, .int .i64 a0_3, .int .i64 a0_4]] w fun e w' => e = .returned (.agg #[.int .i64 r1, .bool r2, .int .i64 r3, .int .i64 r4, .int .i64 r5]) ∧ Below w.heap.size w w' := by
 have hu114 := Try.underlying114;have hu77 := Try.underlying77;have hu75 := Try.underlying75;have HB := Aside0.mk (Below.refl w.heap.size w);have H : ((laws_toIntA3.f k a0_2 a0_3 a0_4).bind fun bt289 => (some (a0_0, a0_1, bt289.1, bt289.2.1, bt289.2.2))) = some (r1, r2, r3, r4, r5) := h;clear h;replace H := Option.bind_eq_some_iff.mp H;obtain ⟨⟨t289, t290, t291⟩, A20, H⟩ := H;replace H : (some (a0_0, a0_1, t289, t290, t291)) = some (r1, r2, r3, r4, r5) := H;have A2 := Aside0.mk A20;clear A20;simp only [Option.some.injEq, Prod.mk.injEq] at H;obtain ⟨rfl, rfl, rfl, rfl, rfl⟩ := H
 go_enter Try.func104, Try.ntmps104
 go_wp2_with (first | ((with_reducible refine gate_dst (N := 1) rfl ?_); refine box_event ?hg (N := 1) ?hd (cs := #[.int .i64 a0_0, .bool a0_1, .int .i64 a0_2, .int .i64 a0_3, .int .i64 a0_4]) (t := 114) ?hr ?_; (case hd => rfl); (case hg => rfl); (case hr => first | (go_simp; done) | (go_simp; rfl)); intro gb286 hg w3 hbox hb; have qB_ := bS_ (bw HB.out) hb; replace HB := Aside0.mk (qB_.2); have BK286 := Aside0.mk (hbox); have GW286 := Aside0.mk ((by rw [hg]; exact qB_.1 : w.heap.size ≤ gb286)); have GE286 := GW286; clear qB_; clear hb hbox hg) | ((with_reducible refine gate_dst (N := 2) rfl ?_); refine box_event ?hg (N := 2) ?hd (cs := #[.int .i64 0, .bool false, .int .i64 0, .int .i64 0, .int .i64 0]) (t := 77) ?hr ?_; (case hd => rfl); (case hg => rfl); (case hr => first | (go_simp; done) | (go_simp; rfl)); intro gb287 hg w4 hbox hb; have qB_ := bS_ (bw1 HB.out GE286.out) hb; replace HB := Aside0.mk (qB_.2); have BK287 := Aside0.mk (hbox); have GW287 := Aside0.mk ((by rw [hg]; exact qB_.1 : w.heap.size ≤ gb287)); have GE287 := GW287; have NB286_287 := Aside0.mk ((by rw [hg]; exact Nat.ne_of_lt (bL BK286.out) : gb286 ≠ gb287)); have NB287_286 := Aside0.mk ((by rw [hg]; exact Nat.ne_of_gt (bL BK286.out) : gb287 ≠ gb286)); replace BK286 := Aside0.mk (bB BK286.out hb); clear qB_; clear hb hbox hg) | ((with_reducible refine gate_dst (N := 3) rfl ?_); refine box_event ?hg (N := 3) ?hd (cs := #[.int .i64 0, .bool false, .int .i64 0, .int .i64 0, .int .i64 0]) (t := 77) ?hr ?_; (case hd => rfl); (case hg => rfl); (case hr => first | (go_simp; done) | (go_simp; rfl)); intro gb288 hg w5 hbox hb; have qB_ := bS_ (bw2 HB.out GE286.out GE287.out) hb; replace HB := Aside0.mk (qB_.2); have BK288 := Aside0.mk (hbox); have GW288 := Aside0.mk ((by rw [hg]; exact qB_.1 : w.heap.size ≤ gb288)); have GE288 := GW288; have NB286_288 := Aside0.mk ((by rw [hg]; exact Nat.ne_of_lt (bL BK286.out) : gb286 ≠ gb288)); have NB288_286 := Aside0.mk ((by rw [hg]; exact Nat.ne_of_gt (bL BK286.out) : gb288 ≠ gb286)); replace BK286 := Aside0.mk (bB BK286.out hb); have NB287_288 := Aside0.mk ((by rw [hg]; exact Nat.ne_of_lt (bL BK287.out) : gb287 ≠ gb288)); have NB288_287 := Aside0.mk ((by rw [hg]; exact Nat.ne_of_gt (bL BK287.out) : gb288 ≠ gb287)); replace BK287 := Aside0.mk (bB BK287.out hb); clear qB_; clear hb hbox hg; have hnb6 := NB286_287.out; have hnc6 := NB287_286.out; have hnb7 := NB286_288.out; have hnc7 := NB288_286.out; obtain ⟨hcz8_0, hcz8_1, hcz8_2, hcz8_3, hcz8_4, hfz8_0, hfz8_1, hfz8_2, hfz8_3, hfz8_4⟩ := cs5_ BK286.out; have hnb9 := NB288_287.out; have hnc9 := NB287_288.out; obtain ⟨hcz10_0, hcz10_1, hcz10_2, hcz10_3, hcz10_4, hfz10_0, hfz10_1, hfz10_2, hfz10_3, hfz10_4⟩ := cs5_ BK288.out) | ((with_reducible refine gate_callee (f := 106) rfl ?_); refine goesL_ (some 12) rfl rfl Try.func106 (by kernel_rfl) rfl #[.agg #[.int .i64 a0_2, .int .i64 a0_3, .int .i64 a0_4]] rfl gl ?_; (with_reducible refine (laws_toIntA3.calls k a0_2 a0_3 a0_4 t289 t290 t291 _ A2.out).mono ?_); rintro e w11 ⟨rfl, hb⟩; refine ⟨_, rfl, ?_⟩; replace BK286 := Aside0.mk (bF_ BK286.out hb (by (repeat (first | (with_reducible first | refine hN_ ?_ _ | refine hD_ ?_ | refine hA_ ?_ _ BK286.out) | refine hF_ ?_ NB286_288.out _)); rfl)); replace BK287 := Aside0.mk (bF_ BK287.out hb (by (repeat (first | (with_reducible first | refine hN_ ?_ _ | refine hD_ ?_ | refine hA_ ?_ _ BK287.out) | refine hF_ ?_ NB287_288.out _)); rfl)); replace BK288 := Aside0.mk (blk_below (g := gb288) (o := .cells #[.int .i64 a0_0, .bool a0_1, .int .i64 0, .int .i64 0, .int .i64 0] 77 (0, 0)) (by apply bE_; (case h => (repeat (first | (with_reducible first | refine blk_drewN ?_ _ | refine blk_drew ?_ | refine blk_alloc ?_ _ | apply blk_set))); exact BK288.out); (case e => rfl)) hb); replace HB := Aside0.mk (below_step (bw3 HB.out GE286.out GE287.out GE288.out) hb); clear hb; obtain ⟨hcz12_0, hcz12_1, hcz12_2, hcz12_3, hcz12_4, hfz12_0, hfz12_1, hfz12_2, hfz12_3, hfz12_4⟩ := cs5_ BK288.out; obtain ⟨hcz13_0, hcz13_1, hcz13_2, hcz13_3, hcz13_4, hfz13_0, hfz13_1, hfz13_2, hfz13_3, hfz13_4⟩ := cs5_ BK287.out))
 refine bodyPost_ret (results_cell_row rfl _ _ gb287 77 #[.int .i64 a0_0, .bool a0_1, .int .i64 t289, .int .i64 t290, .int .i64 t291] (0, 0) _ rfl (by (with_reducible repeat (first | refine blk_drewN ?_ _ | refine blk_drew ?_ | refine blk_alloc ?_ _)); refine blk_put (cs := #[.int .i64 a0_0, .bool a0_1, .int .i64 t289, .int .i64 t290, .int .i64 0]) ?_ 4 _ rfl; refine blk_put (cs := #[.int .i64 a0_0, .bool a0_1, .int .i64 t289, .int .i64 0, .int .i64 0]) ?_ 3 _ rfl; refine blk_put (cs := #[.int .i64 a0_0, .bool a0_1, .int .i64 0, .int .i64 0, .int .i64 0]) ?_ 2 _ rfl; refine blk_put (cs := #[.int .i64 a0_0, .bool false, .int .i64 0, .int .i64 0, .int .i64 0]) ?_ 1 _ rfl; refine blk_put (cs := #[.int .i64 0, .bool false, .int .i64 0, .int .i64 0, .int .i64 0]) ?_ 0 _ rfl; (with_reducible repeat (first | refine blk_drewN ?_ _ | refine blk_drew ?_ | refine blk_alloc ?_ _)); refine blk_far ?_ NB287_288.out _; refine blk_far ?_ NB287_288.out _; refine blk_far ?_ NB287_288.out _; (with_reducible repeat (first | refine blk_drewN ?_ _ | refine blk_drew ?_ | refine blk_alloc ?_ _)); exact BK287.out) Try.underlying77 rfl (by kernel_rfl)) rfl ?_;exact ⟨er, bw3 HB.out GE286.out GE287.out GE288.out⟩

def laws_toBlockS.l0 : Nat → List (S114) → List (S77) → Int → Option ((List (S77)))
 | 0, _, _, _ => none
 | k + 1, x0, x3, x4 => if x4 < (x0.length : Int) then (if 0 ≤ x4 then ((laws_toBlock.f k ((rd_T114 x0 x4).f0) ((rd_T114 x0 x4).f1) ((rd_T114 x0 x4).f2.f0) ((rd_T114 x0 x4).f2.f1) ((rd_T114 x0 x4).f2.f2)).bind fun bt325 => (if x4 < (x3.length : Int) then (laws_toBlockS.l0 k x0 (x3.set (x4 : Int).toNat (⟨bt325.1, bt325.2.1, (⟨bt325.2.2.1, bt325.2.2.2.1, bt325.2.2.2.2⟩ : S75)⟩ : S77)) (wrap64 (x4 + 1))) else (none))) else (none)) else (some x3)
def laws_toBlockS.f (k : Nat) (l0 : List (S114)) : Option ((List (S77))) := if 0 ≤ (l0.length : Int) then (if ((l0.length : Int) : Int).toNat ≤ 7036874417766 then (laws_toBlockS.l0 k l0 (List.replicate ((l0.length : Int) : Int).toNat z77) 0) else (none)) else (none)
set_option maxHeartbeats 8000000 in
set_option maxRecDepth 100000 in
theorem laws_toBlockS.calls (k : Nat) (A0 : Option Addr) (c0 : Nat) (l0 : List (S114)) (r : List (S77)) (w : World) (hr0 : Kd.C k114 w A0 l0.length l0) (hc0 : l0.length ≤ c0) (h : laws_toBlockS.f k l0 = some r) :
  Calls Try.prog 94 #[.slice A0 l0.length c0] w fun e w' => ∃ v0_ : Value, e = .returned (v0_) ∧ Kd.R k77 77 w' w.heap.size (fun _ => True) v0_ r ∧ Below w.heap.size w w' := by
 have hu114 := Try.underlying114;have hu77 := Try.underlying77;have HR0 := Aside0.mk hr0;have HC0 := Aside0.mk hc0;clear hr0 hc0;have HB := Aside0.mk (Below.refl w.heap.size w);have H : (if 0 ≤ (l0.length : Int) then (if ((l0.length : Int) : Int).toNat ≤ 7036874417766 then (laws_toBlockS.l0 k l0 (List.replicate ((l0.length : Int) : Int).toNat z77) 0) else (none)) else (none)) = some r := h;clear h
 by_cases c2 : 0 ≤ (l0.length : Int)
 ·rw [if_pos c2] at H
  have c2b0 := eq_true c2;have c2b1 : decide (0 ≤ (l0.length : Int)) = true := decide_eq_true c2;clear c2
  by_cases c3 : ((l0.length : Int) : Int).toNat ≤ 7036874417766
  ·rw [if_pos c3] at H
   have c3b0 := eq_true c3;have c3b1 : decide (((l0.length : Int) : Int).toNat ≤ 7036874417766) = true := decide_eq_true c3;clear c3;obtain ⟨y292, hy292⟩ : ∃ y_ : List (S77), y_ = (List.replicate ((l0.length : Int) : Int).toNat z77) := ⟨_, rfl⟩;replace H : (laws_toBlockS.l0 k l0 y292 0) = some r := by first | (rw [hy292]; with_reducible exact H) | (have H2_ := (Option.bind_some _ _).symm.trans H; rw [hy292]; with_reducible exact H2_) | (have H2_ := (Option.bind_some _ _).symm.trans H; with_reducible exact H2_) | with_reducible exact H | (rw [hy292]; exact H) | exact H
   have Ny292 := Aside0.mk hy292;clear hy292;have H' := Aside0.mk H;clear H
   go_enter Try.func94, Try.ntmps94
   go_wp2_with (first | ((with_reducible refine gate_dst (N := 7) rfl ?_); refine Kd.R_make k77 _ 77 rfl (N := 7) rfl 24 _ _ rfl (l0.length : Int) rfl rfl Try.underlying24 (.agg #[(.int .i64 0), (.bool false), (.int .i64 0), (.int .i64 0), (.int .i64 0)]) 40 info77 rfl (by decide) (by omega) z77 (ok := fun _ => True) (okp := fun _ => True) (k77_mkM _ _ _ z77 ) (fun _ hk => hk) trivial (oa) (Nat.le_trans (Nat.mul_le_mul_right _ (oa : (l0.length : Int).toNat ≤ 7036874417766)) (by omega)) (Below.refl _ _) (Nat.le_refl _) ?_; intro v293 w4 ho5 hb hg_ hnew_; clear hg_ hnew_; (first | rw [← Ny292.out] at ho5 | (simp only [Int.reduceToNat] at ho5; rw [← Ny292.out] at ho5)); have qB_ := bS_ (bw HB.out) hb; have HO294 := Aside0.mk (Kd.R_lower ho5 qB_.1); replace HB := Aside0.mk (qB_.2); clear qB_; clear hb ho5))
   go_loopg [4] k (fun kq v4 w' => ∃ (x3_1 : List (S77)) (x4_1 : Int), v4 = .int .i64 x4_1 ∧ Aside0 (laws_toBlockS.l0 kq l0 x3_1 x4_1 = some r) ∧ Aside0 (kq ≤ k) ∧ Aside0 (Kd.R k77 77 w' w.heap.size (fun _ => True) v293 x3_1) ∧ Aside0 (Below w.heap.size w w'))
   case atStart => exact ⟨(y292), (0), (by first | rfl | (simp; done) | (simp [*]; done)), H', ⟨Nat.le_refl _⟩, ⟨rk HO294.out⟩, ⟨bw HB.out⟩⟩
   case round =>
    clear H'
    skip
    obtain ⟨x3_1, x4_1, rfl, HA, HK1, HO_3, HB⟩ := hrel;cases gk with
    | zero => exact absurd HA.out (by simp [laws_toBlockS.l0])
    | succ k1 =>
     have H := HA.out;clear HA;simp only [laws_toBlockS.l0] at H
     by_cases c6 : x4_1 < (l0.length : Int)
     ·rw [if_pos c6] at H
      have c6b0 : decide (x4_1 < (l0.length : Int)) = true := decide_eq_true c6;clear c6
      by_cases c7 : 0 ≤ x4_1
      ·rw [if_pos c7] at H
       have c7b0 : decide (0 ≤ x4_1) = true := decide_eq_true c7;clear c7;replace H := bO_ H;obtain ⟨⟨t296, t297, t298, t299, t300⟩, A8, H⟩ := H
       by_cases c9 : x4_1 < (x3_1.length : Int)
       ·rw [if_pos c9] at H
        have c9b0 : decide (x4_1 < (x3_1.length : Int)) = true := decide_eq_true c9;clear c9;obtain ⟨y301, hy301⟩ : ∃ y_ : List (S77), y_ = (x3_1.set (x4_1 : Int).toNat (⟨t296, t297, (⟨t298, t299, t300⟩ : S75)⟩ : S77)) := ⟨_, rfl⟩;replace H : (laws_toBlockS.l0 k1 l0 y301 (wrap64 (x4_1 + 1))) = some r := by first | (rw [hy301]; with_reducible exact H) | (have H2_ := (Option.bind_some _ _).symm.trans H; rw [hy301]; with_reducible exact H2_) | (have H2_ := (Option.bind_some _ _).symm.trans H; with_reducible exact H2_) | with_reducible exact H | (rw [hy301]; exact H) | exact H
        have Ny301 := Aside0.mk hy301;clear hy301;have H' := Aside0.mk H;clear H;have p295 : 0 ≤ (x4_1 : Int) := oa;have q295 : x4_1 < (l0.length : Int) := oa;obtain ⟨ad295, e295, hx295_0, hx295_1, hx295_2, hx295_3, hx295_4⟩ := at_T114 HR0.out x4_1 p295 q295;cases e295;replace hx295_0 := (HB.out.cell (World.block_lt_of_cell? w _ hx295_0)).trans hx295_0;replace hx295_1 := (HB.out.cell (World.block_lt_of_cell? w _ hx295_1)).trans hx295_1;replace hx295_2 := (HB.out.cell (World.block_lt_of_cell? w _ hx295_2)).trans hx295_2;replace hx295_3 := (HB.out.cell (World.block_lt_of_cell? w _ hx295_3)).trans hx295_3;replace hx295_4 := (HB.out.cell (World.block_lt_of_cell? w _ hx295_4)).trans hx295_4;replace p295 := eq_true p295;replace q295 := eq_true q295
        go_wp2_with (first | ((with_reducible refine gate_callee (f := 104) rfl ?_); refine goesL_ (some 20) rfl rfl Try.func104 (by kernel_rfl) rfl #[.agg #[.int .i64 ((rd_T114 l0 x4_1).f0), .bool ((rd_T114 l0 x4_1).f1), .int .i64 ((rd_T114 l0 x4_1).f2.f0), .int .i64 ((rd_T114 l0 x4_1).f2.f1), .int .i64 ((rd_T114 l0 x4_1).f2.f2)]] rfl gl ?_; (with_reducible refine (laws_toBlock.calls k1 ((rd_T114 l0 x4_1).f0) ((rd_T114 l0 x4_1).f1) ((rd_T114 l0 x4_1).f2.f0) ((rd_T114 l0 x4_1).f2.f1) ((rd_T114 l0 x4_1).f2.f2) t296 t297 t298 t299 t300 _ A8.out).mono ?_); rintro e w11 ⟨rfl, hb⟩; refine ⟨_, rfl, ?_⟩; replace HO_3 := Aside0.mk (Kd.R_below (rk HO_3.out) hb); replace HB := Aside0.mk (below_step (bw HB.out) hb); clear hb; have p10 : 0 ≤ (x4_1 : Int) := oa; have q10 : (x4_1 : Int) < ((x3_1.length : Int) : Int) := oa; obtain ⟨go10, co10, eo10, gb10, gl10, cl10, HG10⟩ := Kd.R_form HO_3.out (by omega); (first | cases eo10 | (injection eo10 with ea_ en_ ec_; (first | subst ea_ | (injection ea_ with ea_; subst ea_)); subst ec_; clear en_)); have GB10 := Aside0.mk gb10; have GG10 := Aside0.mk HG10; clear gb10 gl10 HG10; obtain ⟨ce10, hcl10, hM10, hcc10, hfr10⟩ := Kd.R_elem HO_3.out z77 (x4_1 : Int) p10 q10; obtain rfl := k77_openM hM10; have hx10_0 : w11.cell? ⟨go10, (x4_1 : Int).toNat * 5, none⟩ = some (.int .i64 ((rd_T77 x3_1 x4_1).f0)) := hcc10 0 _ rfl; have hx10_1 : w11.cell? ⟨go10, (x4_1 : Int).toNat * 5 + 1, none⟩ = some (.bool ((rd_T77 x3_1 x4_1).f1)) := hcc10 1 _ rfl; have hx10_2 : w11.cell? ⟨go10, (x4_1 : Int).toNat * 5 + 2, none⟩ = some (.int .i64 ((rd_T77 x3_1 x4_1).f2.f0)) := hcc10 2 _ rfl; have hx10_3 : w11.cell? ⟨go10, (x4_1 : Int).toNat * 5 + 3, none⟩ = some (.int .i64 ((rd_T77 x3_1 x4_1).f2.f1)) := hcc10 3 _ rfl; have hx10_4 : w11.cell? ⟨go10, (x4_1 : Int).toNat * 5 + 4, none⟩ = some (.int .i64 ((rd_T77 x3_1 x4_1).f2.f2)) := hcc10 4 _ rfl; have hf10_0 : w11.frozen? ⟨go10, (x4_1 : Int).toNat * 5, none⟩ = false := hfr10 0; have hf10_1 : w11.frozen? ⟨go10, (x4_1 : Int).toNat * 5 + 1, none⟩ = false := hfr10 1; have hf10_2 : w11.frozen? ⟨go10, (x4_1 : Int).toNat * 5 + 2, none⟩ = false := hfr10 2; have hf10_3 : w11.frozen? ⟨go10, (x4_1 : Int).toNat * 5 + 3, none⟩ = false := hfr10 3; have hf10_4 : w11.frozen? ⟨go10, (x4_1 : Int).toNat * 5 + 4, none⟩ = false := hfr10 4; clear hcl10 hcc10 hfr10 hM10; replace p10 := eq_true p10; replace q10 := eq_true q10; have HX12 := Aside0.mk (show Kd.R k77 77 w11 w.heap.size (fun _ => True) (.slice (some ⟨go10, 0, none⟩) x3_1.length co10) x3_1 from (rk HO_3.out)); obtain ⟨ce12, hcl12, hM12, hcc12, hfr12⟩ := Kd.R_elem HX12.out z77 (x4_1 : Int) (oa) (by have h_ : (x4_1 : Int) < ((x3_1.length : Int) : Int) := oa; first | exact h_ | (have e_ := (Kd.R_reads' HO_3.out).1; omega) | simpa using h_); obtain rfl := k77_openM hM12; have HP12 := Kd.R_seg HX12.out (x4_1 : Int) (oa) (by have h_ : (x4_1 : Int) < ((x3_1.length : Int) : Int) := oa; first | exact h_ | (have e_ := (Kd.R_reads' HO_3.out).1; omega) | simpa using h_) (seg := [.int .i64 t296, .bool t297, .int .i64 t298, .int .i64 t299, .int .i64 t300]) (j := 0) hcl12 hcc12 (show 5 ≤ 5 from by decide) (x' := (⟨t296, t297, (⟨t298, t299, t300⟩ : S75)⟩ : S77)) (k77_mkM _ _ _ (⟨t296, t297, (⟨t298, t299, t300⟩ : S75)⟩ : S77) ) (fun _ hk => hk); have hx12_0 := hcc12 0 _ rfl; (try simp only [show (k77).sz = 5 from rfl, Nat.mul_one, Nat.add_zero] at hx12_0); have hf12_0 := hfr12 0; (try simp only [show (k77).sz = 5 from rfl, Nat.mul_one, Nat.add_zero] at hf12_0); have hx12_1 := hcc12 1 _ rfl; (try simp only [show (k77).sz = 5 from rfl, Nat.mul_one, Nat.add_zero] at hx12_1); have hf12_1 := hfr12 1; (try simp only [show (k77).sz = 5 from rfl, Nat.mul_one, Nat.add_zero] at hf12_1); have hx12_2 := hcc12 2 _ rfl; (try simp only [show (k77).sz = 5 from rfl, Nat.mul_one, Nat.add_zero] at hx12_2); have hf12_2 := hfr12 2; (try simp only [show (k77).sz = 5 from rfl, Nat.mul_one, Nat.add_zero] at hf12_2); have hx12_3 := hcc12 3 _ rfl; (try simp only [show (k77).sz = 5 from rfl, Nat.mul_one, Nat.add_zero] at hx12_3); have hf12_3 := hfr12 3; (try simp only [show (k77).sz = 5 from rfl, Nat.mul_one, Nat.add_zero] at hf12_3); have hx12_4 := hcc12 4 _ rfl; (try simp only [show (k77).sz = 5 from rfl, Nat.mul_one, Nat.add_zero] at hx12_4); have hf12_4 := hfr12 4; (try simp only [show (k77).sz = 5 from rfl, Nat.mul_one, Nat.add_zero] at hf12_4); clear hcl12 hcc12 hfr12 hM12) | ((with_reducible refine gate_store (t := 77) (p := 21) rfl ?_); refine store_event (t := 77) (p := 21) (v := ?vo_w13) (w1 := (((((w11.setCell ⟨go10, (x4_1 : Int).toNat * 5, none⟩ (.int .i64 t296)).setCell ⟨go10, (x4_1 : Int).toNat * 5 + 1, none⟩ (.bool t297)).setCell ⟨go10, (x4_1 : Int).toNat * 5 + 2, none⟩ (.int .i64 t298)).setCell ⟨go10, (x4_1 : Int).toNat * 5 + 3, none⟩ (.int .i64 t299)).setCell ⟨go10, (x4_1 : Int).toNat * 5 + 4, none⟩ (.int .i64 t300))) ?hg ?ho ?hn ?hr ?_; (case ho => rfl); (case hg => rfl); (case hn => rfl); (case hr => first | (go_simp; done) | (go_simp; rfl)); intro w13 hw; have hg : w11.grownBy w13 (some go10) := (by rw [hw]; exact HP12.2); have hp_ : Kd.R k77 77 w13 w.heap.size (fun _ => True) (.slice (some ⟨go10, 0, none⟩) x3_1.length co10) y301 := (by rw [hw, Ny301.out]; exact HP12.1); clear HP12; replace HO_3 := Aside0.mk (hp_); replace HB := Aside0.mk ((by rw [hw]; exact below_set (below_set (below_set (below_set (below_set (HB.out) GB10.out) GB10.out) GB10.out) GB10.out) GB10.out : Below w.heap.size w w13)); clear hg hw hp_))
        go_roundg k1
        case measure => have := HK1.out; omega
        case rel => exact ⟨(y301), (wrap64 (x4_1 + 1)), (by first | rfl | (simp; done) | (simp [*]; done)), H', ⟨by have := HK1.out; omega⟩, ⟨rk HO_3.out⟩, ⟨bw HB.out⟩⟩
       ·rw [if_neg c9] at H
        exact absurd H (by simp)
      ·rw [if_neg c7] at H
       exact absurd H (by simp)
     ·rw [if_neg c6] at H
      have c6b0 : decide (x4_1 < (l0.length : Int)) = false := decide_eq_false c6;clear c6;obtain rfl := Option.some.inj H;go_wp2
      go_ret
      exact ⟨_, er, by (with_reducible repeat (first | apply Kd.R_alloc | apply Kd.R_drewN | apply Kd.R_drew)); exact HO_3.out, bw HB.out⟩
  ·rw [if_neg c3] at H
   exact absurd H (by simp)
 ·rw [if_neg c2] at H
  exact absurd H (by simp)

def laws_toArena.f (k : Nat) (l0_0 : List (S114)) (l0_1 : List Int) : Option ((List (S77)) × List Int) := (laws_toBlockS.f k l0_0).bind fun t334 => ((laws_toIntS.f k l0_1).bind fun t337 => (some (t334, t337)))
set_option maxHeartbeats 8000000 in
set_option maxRecDepth 100000 in
theorem laws_toArena.calls (k : Nat) (A0_0 : Option Addr) (c0_0 : Nat) (l0_0 : List (S114)) (A0_1 : Option Addr) (c0_1 : Nat) (l0_1 : List Int) (r1 : List (S77)) (r2 : List Int) (w : World) (hr0_0 : Kd.C k114 w A0_0 l0_0.length l0_0) (hc0_0 : l0_0.length ≤ c0_0) (hr0_1 : Kd.C (Kd.int .i64) w A0_1 l0_1.length l0_1) (hc0_1 : l0_1.length ≤ c0_1) (h : laws_toArena.f k l0_0 l0_1 = some (r1, r2)) :
  Calls Try.prog 72 #[.agg #[.slice A0_0 l0_0.length c0_0, .slice A0_1 l0_1.length c0_1]] w fun e w' => ∃ v0_ v1_ : Value, e = .returned (.agg #[v0_, v1_]) ∧ Kd.R k77 77 w' w.heap.size (fun _ => True) v0_ r1 ∧ Kd.R (Kd.int .i64) 3 w' w.heap.size (fun _ => True) v1_ r2 ∧ Below w.heap.size w w' := by
 have hu53 := Try.underlying53;have hu27 := Try.underlying27;have HR0_0 := Aside0.mk hr0_0;have HC0_0 := Aside0.mk hc0_0;clear hr0_0 hc0_0;have HR0_1 := Aside0.mk hr0_1;have HC0_1 := Aside0.mk hc0_1;clear hr0_1 hc0_1;have HB := Aside0.mk (Below.refl w.heap.size w);have H : ((laws_toBlockS.f k l0_0).bind fun t305 => ((laws_toIntS.f k l0_1).bind fun t308 => (some (t305, t308)))) = some (r1, r2) := h;clear h;replace H := Option.bind_eq_some_iff.mp H;obtain ⟨t305, A20, H⟩ := H;replace H : ((laws_toIntS.f k l0_1).bind fun t308 => (some (t305, t308))) = some (r1, r2) := H;have A2 := Aside0.mk A20;clear A20;replace H := Option.bind_eq_some_iff.mp H;obtain ⟨t308, A30, H⟩ := H;replace H : (some (t305, t308)) = some (r1, r2) := H;have A3 := Aside0.mk A30;clear A30;simp only [Option.some.injEq, Prod.mk.injEq] at H;obtain ⟨rfl, rfl⟩ := H
 go_enter Try.func72, Try.ntmps72
 go_wp2_with (first | ((with_reducible refine gate_dst (N := 1) rfl ?_); refine box_event ?hg (N := 1) ?hd (cs := #[.slice A0_0 l0_0.length c0_0, .slice A0_1 l0_1.length c0_1]) (t := 53) ?hr ?_; (case hd => rfl); (case hg => rfl); (case hr => first | (go_simp; done) | (go_simp; rfl)); intro gb302 hg w4 hbox hb; have qB_ := bS_ (bw HB.out) hb; replace HB := Aside0.mk (qB_.2); have BK302 := Aside0.mk (hbox); have GW302 := Aside0.mk ((by rw [hg]; exact qB_.1 : w.heap.size ≤ gb302)); have GE302 := GW302; clear qB_; clear hb hbox hg) | ((with_reducible refine gate_dst (N := 2) rfl ?_); refine box_event ?hg (N := 2) ?hd (cs := #[.slice none 0 0, .slice none 0 0]) (t := 27) ?hr ?_; (case hd => rfl); (case hg => rfl); (case hr => first | (go_simp; done) | (go_simp; rfl)); intro gb303 hg w5 hbox hb; have qB_ := bS_ (bw1 HB.out GE302.out) hb; replace HB := Aside0.mk (qB_.2); have BK303 := Aside0.mk (hbox); have GW303 := Aside0.mk ((by rw [hg]; exact qB_.1 : w.heap.size ≤ gb303)); have GE303 := GW303; have NB302_303 := Aside0.mk ((by rw [hg]; exact Nat.ne_of_lt (bL BK302.out) : gb302 ≠ gb303)); have NB303_302 := Aside0.mk ((by rw [hg]; exact Nat.ne_of_gt (bL BK302.out) : gb303 ≠ gb302)); replace BK302 := Aside0.mk (bB BK302.out hb); clear qB_; clear hb hbox hg) | ((with_reducible refine gate_dst (N := 3) rfl ?_); refine box_event ?hg (N := 3) ?hd (cs := #[.slice none 0 0, .slice none 0 0]) (t := 27) ?hr ?_; (case hd => rfl); (case hg => rfl); (case hr => first | (go_simp; done) | (go_simp; rfl)); intro gb304 hg w6 hbox hb; have qB_ := bS_ (bw2 HB.out GE302.out GE303.out) hb; replace HB := Aside0.mk (qB_.2); have BK304 := Aside0.mk (hbox); have GW304 := Aside0.mk ((by rw [hg]; exact qB_.1 : w.heap.size ≤ gb304)); have GE304 := GW304; have NB302_304 := Aside0.mk ((by rw [hg]; exact Nat.ne_of_lt (bL BK302.out) : gb302 ≠ gb304)); have NB304_302 := Aside0.mk ((by rw [hg]; exact Nat.ne_of_gt (bL BK302.out) : gb304 ≠ gb302)); replace BK302 := Aside0.mk (bB BK302.out hb); have NB303_304 := Aside0.mk ((by rw [hg]; exact Nat.ne_of_lt (bL BK303.out) : gb303 ≠ gb304)); have NB304_303 := Aside0.mk ((by rw [hg]; exact Nat.ne_of_gt (bL BK303.out) : gb304 ≠ gb303)); replace BK303 := Aside0.mk (bB BK303.out hb); clear qB_; clear hb hbox hg; have hnb7 := NB302_303.out; have hnc7 := NB303_302.out; have hnb8 := NB302_304.out; have hnc8 := NB304_302.out; obtain ⟨hcz9_0, hcz9_1, hfz9_0, hfz9_1⟩ := cs2_ BK302.out) | ((with_reducible refine gate_callee (f := 94) rfl ?_); refine goesL_ (some 6) rfl rfl Try.func94 (by kernel_rfl) rfl #[.slice A0_0 l0_0.length c0_0] rfl gl ?_; (with_reducible refine (laws_toBlockS.calls k _ _ l0_0 t305 _ ?side1 ?side2 A2.out).mono ?_); (case side1 => exact ck (Kd.C_below HR0_0.out HB.out)); (case side2 => exact HC0_0.out); rintro e w10 ⟨v306, rfl, ho0, hb⟩; refine ⟨_, rfl, ?_⟩; have qB_ := bS_ (bw3 HB.out GE302.out GE303.out GE304.out) hb; have HO307 := Aside0.mk (Kd.R_lower ho0 qB_.1); replace BK302 := Aside0.mk (bB BK302.out hb); replace BK303 := Aside0.mk (bB BK303.out hb); replace BK304 := Aside0.mk (bB BK304.out hb); replace HB := Aside0.mk (qB_.2); clear qB_; clear hb ho0; obtain ⟨Ao11, co11, eo11⟩ := Kd.R_slice HO307.out; subst eo11; have hnb12 := NB304_303.out; have hnc12 := NB303_304.out; obtain ⟨hcz13_0, hcz13_1, hfz13_0, hfz13_1⟩ := cs2_ BK304.out; obtain ⟨hcz14_0, hcz14_1, hfz14_0, hfz14_1⟩ := cs2_ BK302.out) | ((with_reducible refine gate_callee (f := 73) rfl ?_); refine goesL_ (some 10) rfl rfl Try.func73 (by kernel_rfl) rfl #[.slice A0_1 l0_1.length c0_1] rfl gl ?_; (with_reducible refine (laws_toIntS.calls k _ _ l0_1 t308 _ ?side1 ?side2 A3.out).mono ?_); (case side1 => exact Kd.C_below HR0_1.out (bw3 HB.out GE302.out GE303.out GE304.out)); (case side2 => exact HC0_1.out); rintro e w15 ⟨v309, rfl, ho0, hb⟩; refine ⟨_, rfl, ?_⟩; have qB_ := bS_ (bw3 HB.out GE302.out GE303.out GE304.out) hb; replace HO307 := Aside0.mk (Kd.R_below (by (with_reducible repeat (first | apply Kd.R_alloc | apply Kd.R_drewN | apply Kd.R_drew)); exact (Kd.R_mono (Kd.R_far (Kd.R_types HO307.out BK304.out (by decide)) (fun _ hk => hk.2) _) (fun _ h_ => h_.1))) hb); have HO310 := Aside0.mk (Kd.R_lower ho0 qB_.1); replace BK302 := Aside0.mk (bF_ BK302.out hb (by (repeat (first | (with_reducible first | refine hN_ ?_ _ | refine hD_ ?_ | refine hA_ ?_ _ BK302.out) | refine hF_ ?_ NB302_304.out _)); rfl)); replace BK303 := Aside0.mk (bF_ BK303.out hb (by (repeat (first | (with_reducible first | refine hN_ ?_ _ | refine hD_ ?_ | refine hA_ ?_ _ BK303.out) | refine hF_ ?_ NB303_304.out _)); rfl)); replace BK304 := Aside0.mk (blk_below (g := gb304) (o := .cells #[.slice Ao11 t305.length co11, .slice none 0 0] 27 (0, 0)) (by apply bE_; (case h => (repeat (first | (with_reducible first | refine blk_drewN ?_ _ | refine blk_drew ?_ | refine blk_alloc ?_ _ | apply blk_set))); exact BK304.out); (case e => rfl)) hb); replace HB := Aside0.mk (qB_.2); clear qB_; clear hb ho0; obtain ⟨Ao16, co16, eo16⟩ := Kd.R_slice HO310.out; subst eo16; obtain ⟨hcz17_0, hcz17_1, hfz17_0, hfz17_1⟩ := cs2_ BK304.out; obtain ⟨hcz18_0, hcz18_1, hfz18_0, hfz18_1⟩ := cs2_ BK303.out))
 refine bodyPost_ret (results_cell_row rfl _ _ gb303 27 #[.slice Ao11 t305.length co11, .slice Ao16 t308.length co16] (0, 0) _ rfl (by (with_reducible repeat (first | refine blk_drewN ?_ _ | refine blk_drew ?_ | refine blk_alloc ?_ _)); refine blk_put (cs := #[.slice Ao11 t305.length co11, .slice none 0 0]) ?_ 1 _ rfl; refine blk_put (cs := #[.slice none 0 0, .slice none 0 0]) ?_ 0 _ rfl; (with_reducible repeat (first | refine blk_drewN ?_ _ | refine blk_drew ?_ | refine blk_alloc ?_ _)); refine blk_far ?_ NB303_304.out _; (with_reducible repeat (first | refine blk_drewN ?_ _ | refine blk_drew ?_ | refine blk_alloc ?_ _)); exact BK303.out) Try.underlying27 rfl (by kernel_rfl)) rfl ?_;exact ⟨_, _, er, by (with_reducible repeat (first | apply Kd.R_alloc | apply Kd.R_drewN | apply Kd.R_drew)); exact Kd.R_mono (Kd.R_far (Kd.R_far (Kd.R_far (Kd.R_types (Kd.R_types HO307.out BK304.out (by decide)) BK303.out (by decide)) (fun _ hk => hk.1.2) _) (fun _ hk => hk.2) _) (fun _ hk => hk.2) _) (fun _ hk => trivial), by (with_reducible repeat (first | apply Kd.R_alloc | apply Kd.R_drewN | apply Kd.R_drew)); exact Kd.R_mono (Kd.R_far (Kd.R_far (Kd.R_far (Kd.R_types (Kd.R_types HO310.out BK304.out (by decide)) BK303.out (by decide)) (fun _ hk => hk.1.2) _) (fun _ hk => hk.2) _) (fun _ hk => hk.2) _) (fun _ hk => trivial), bw3 HB.out GE302.out GE303.out GE304.out⟩

def laws_toGone.f (a0_0 : Int) (a0_1 : Int) : Option (Int × Int) := some (a0_0, a0_1)
set_option maxHeartbeats 8000000 in
set_option maxRecDepth 100000 in
theorem laws_toGone.calls (a0_0 : Int) (a0_1 : Int) (r1 : Int) (r2 : Int) (w : World) (h : laws_toGone.f a0_0 a0_1 = some (r1, r2)) :
  Calls Try.prog 95 #[.agg #[.int .i64 a0_0, .int .i64 a0_1]] w fun e w' => e = .returned (.agg #[.int .i64 r1, .int .i64 r2]) ∧ Below w.heap.size w w' := by
 have hu109 := Try.underlying109;have hu41 := Try.underlying41;have HB := Aside0.mk (Below.refl w.heap.size w);have H : (some (a0_0, a0_1)) = some (r1, r2) := h;clear h;simp only [Option.some.injEq, Prod.mk.injEq] at H;obtain ⟨rfl, rfl⟩ := H
 go_enter Try.func95, Try.ntmps95
 go_wp2_with (first | ((with_reducible refine gate_dst (N := 1) rfl ?_); refine box_event ?hg (N := 1) ?hd (cs := #[.int .i64 a0_0, .int .i64 a0_1]) (t := 109) ?hr ?_; (case hd => rfl); (case hg => rfl); (case hr => first | (go_simp; done) | (go_simp; rfl)); intro gb311 hg w2 hbox hb; have qB_ := bS_ (bw HB.out) hb; replace HB := Aside0.mk (qB_.2); have BK311 := Aside0.mk (hbox); have GW311 := Aside0.mk ((by rw [hg]; exact qB_.1 : w.heap.size ≤ gb311)); have GE311 := GW311; clear qB_; clear hb hbox hg) | ((with_reducible refine gate_dst (N := 2) rfl ?_); refine box_event ?hg (N := 2) ?hd (cs := #[.int .i64 0, .int .i64 0]) (t := 41) ?hr ?_; (case hd => rfl); (case hg => rfl); (case hr => first | (go_simp; done) | (go_simp; rfl)); intro gb312 hg w3 hbox hb; have qB_ := bS_ (bw1 HB.out GE311.out) hb; replace HB := Aside0.mk (qB_.2); have BK312 := Aside0.mk (hbox); have GW312 := Aside0.mk ((by rw [hg]; exact qB_.1 : w.heap.size ≤ gb312)); have GE312 := GW312; have NB311_312 := Aside0.mk ((by rw [hg]; exact Nat.ne_of_lt (bL BK311.out) : gb311 ≠ gb312)); have NB312_311 := Aside0.mk ((by rw [hg]; exact Nat.ne_of_gt (bL BK311.out) : gb312 ≠ gb311)); replace BK311 := Aside0.mk (bB BK311.out hb); clear qB_; clear hb hbox hg) | ((with_reducible refine gate_dst (N := 3) rfl ?_); refine box_event ?hg (N := 3) ?hd (cs := #[.int .i64 0, .int .i64 0]) (t := 41) ?hr ?_; (case hd => rfl); (case hg => rfl); (case hr => first | (go_simp; done) | (go_simp; rfl)); intro gb313 hg w4 hbox hb; have qB_ := bS_ (bw2 HB.out GE311.out GE312.out) hb; replace HB := Aside0.mk (qB_.2); have BK313 := Aside0.mk (hbox); have GW313 := Aside0.mk ((by rw [hg]; exact qB_.1 : w.heap.size ≤ gb313)); have GE313 := GW313; have NB311_313 := Aside0.mk ((by rw [hg]; exact Nat.ne_of_lt (bL BK311.out) : gb311 ≠ gb313)); have NB313_311 := Aside0.mk ((by rw [hg]; exact Nat.ne_of_gt (bL BK311.out) : gb313 ≠ gb311)); replace BK311 := Aside0.mk (bB BK311.out hb); have NB312_313 := Aside0.mk ((by rw [hg]; exact Nat.ne_of_lt (bL BK312.out) : gb312 ≠ gb313)); have NB313_312 := Aside0.mk ((by rw [hg]; exact Nat.ne_of_gt (bL BK312.out) : gb313 ≠ gb312)); replace BK312 := Aside0.mk (bB BK312.out hb); clear qB_; clear hb hbox hg; have hnb5 := NB311_312.out; have hnc5 := NB312_311.out; have hnb6 := NB311_313.out; have hnc6 := NB313_311.out; obtain ⟨hcz7_0, hcz7_1, hfz7_0, hfz7_1⟩ := cs2_ BK311.out; have hnb8 := NB313_312.out; have hnc8 := NB312_313.out; obtain ⟨hcz9_0, hcz9_1, hfz9_0, hfz9_1⟩ := cs2_ BK313.out; obtain ⟨hcz10_0, hcz10_1, hfz10_0, hfz10_1⟩ := cs2_ BK312.out))
 refine bodyPost_ret (results_cell_row rfl _ _ gb312 41 #[.int .i64 a0_0, .int .i64 a0_1] (0, 0) _ rfl (by (with_reducible repeat (first | refine blk_drewN ?_ _ | refine blk_drew ?_ | refine blk_alloc ?_ _)); refine blk_put (cs := #[.int .i64 a0_0, .int .i64 0]) ?_ 1 _ rfl; refine blk_put (cs := #[.int .i64 0, .int .i64 0]) ?_ 0 _ rfl; (with_reducible repeat (first | refine blk_drewN ?_ _ | refine blk_drew ?_ | refine blk_alloc ?_ _)); refine blk_far ?_ NB312_313.out _; refine blk_far ?_ NB312_313.out _; (with_reducible repeat (first | refine blk_drewN ?_ _ | refine blk_drew ?_ | refine blk_alloc ?_ _)); exact BK312.out) Try.underlying41 rfl (by kernel_rfl)) rfl ?_;exact ⟨er, bw3 HB.out GE311.out GE312.out GE313.out⟩


def laws_toGoneS.l0 : Nat → List (S109) → List (S41) → Int → Option ((List (S41)))
 | 0, _, _, _ => none
 | k + 1, x0, x3, x4 => if x4 < (x0.length : Int) then (if 0 ≤ x4 then ((laws_toGone.f ((rd_T109 x0 x4).f0) ((rd_T109 x0 x4).f1)).bind fun bt347 => (if x4 < (x3.length : Int) then (laws_toGoneS.l0 k x0 (x3.set (x4 : Int).toNat (⟨bt347.1, bt347.2⟩ : S41)) (wrap64 (x4 + 1))) else (none))) else (none)) else (some x3)
def laws_toGoneS.f (k : Nat) (l0 : List (S109)) : Option ((List (S41))) := if 0 ≤ (l0.length : Int) then (if ((l0.length : Int) : Int).toNat ≤ 17592186044416 then (laws_toGoneS.l0 k l0 (List.replicate ((l0.length : Int) : Int).toNat z41) 0) else (none)) else (none)
set_option maxHeartbeats 8000000 in
set_option maxRecDepth 100000 in
theorem laws_toGoneS.calls (k : Nat) (A0 : Option Addr) (c0 : Nat) (l0 : List (S109)) (r : List (S41)) (w : World) (hr0 : Kd.C k109 w A0 l0.length l0) (hc0 : l0.length ≤ c0) (h : laws_toGoneS.f k l0 = some r) :
  Calls Try.prog 74 #[.slice A0 l0.length c0] w fun e w' => ∃ v0_ : Value, e = .returned (v0_) ∧ Kd.R k41 41 w' w.heap.size (fun _ => True) v0_ r ∧ Below w.heap.size w w' := by
 have hu109 := Try.underlying109;have hu41 := Try.underlying41;have HR0 := Aside0.mk hr0;have HC0 := Aside0.mk hc0;clear hr0 hc0;have HB := Aside0.mk (Below.refl w.heap.size w);have H : (if 0 ≤ (l0.length : Int) then (if ((l0.length : Int) : Int).toNat ≤ 17592186044416 then (laws_toGoneS.l0 k l0 (List.replicate ((l0.length : Int) : Int).toNat z41) 0) else (none)) else (none)) = some r := h;clear h
 by_cases c2 : 0 ≤ (l0.length : Int)
 ·rw [if_pos c2] at H
  have c2b0 := eq_true c2;have c2b1 : decide (0 ≤ (l0.length : Int)) = true := decide_eq_true c2;clear c2
  by_cases c3 : ((l0.length : Int) : Int).toNat ≤ 17592186044416
  ·rw [if_pos c3] at H
   have c3b0 := eq_true c3;have c3b1 : decide (((l0.length : Int) : Int).toNat ≤ 17592186044416) = true := decide_eq_true c3;clear c3;obtain ⟨y314, hy314⟩ : ∃ y_ : List (S41), y_ = (List.replicate ((l0.length : Int) : Int).toNat z41) := ⟨_, rfl⟩;replace H : (laws_toGoneS.l0 k l0 y314 0) = some r := by first | (rw [hy314]; with_reducible exact H) | (have H2_ := (Option.bind_some _ _).symm.trans H; rw [hy314]; with_reducible exact H2_) | (have H2_ := (Option.bind_some _ _).symm.trans H; with_reducible exact H2_) | with_reducible exact H | (rw [hy314]; exact H) | exact H
   have Ny314 := Aside0.mk hy314;clear hy314;have H' := Aside0.mk H;clear H
   go_enter Try.func74, Try.ntmps74
   go_wp2_with (first | ((with_reducible refine gate_dst (N := 7) rfl ?_); refine Kd.R_make k41 _ 41 rfl (N := 7) rfl 28 _ _ rfl (l0.length : Int) rfl rfl Try.underlying28 (.agg #[(.int .i64 0), (.int .i64 0)]) 16 info41 rfl (by decide) (by omega) z41 (ok := fun _ => True) (okp := fun _ => True) (k41_mkM _ _ _ z41 ) (fun _ hk => hk) trivial (oa) (Nat.le_trans (Nat.mul_le_mul_right _ (oa : (l0.length : Int).toNat ≤ 17592186044416)) (by omega)) (Below.refl _ _) (Nat.le_refl _) ?_; intro v315 w4 ho5 hb hg_ hnew_; clear hg_ hnew_; (first | rw [← Ny314.out] at ho5 | (simp only [Int.reduceToNat] at ho5; rw [← Ny314.out] at ho5)); have qB_ := bS_ (bw HB.out) hb; have HO316 := Aside0.mk (Kd.R_lower ho5 qB_.1); replace HB := Aside0.mk (qB_.2); clear qB_; clear hb ho5))
   go_loopg [4] k (fun kq v4 w' => ∃ (x3_1 : List (S41)) (x4_1 : Int), v4 = .int .i64 x4_1 ∧ Aside0 (laws_toGoneS.l0 kq l0 x3_1 x4_1 = some r) ∧ Aside0 (kq ≤ k) ∧ Aside0 (Kd.R k41 41 w' w.heap.size (fun _ => True) v315 x3_1) ∧ Aside0 (Below w.heap.size w w'))
   case atStart => exact ⟨(y314), (0), (by first | rfl | (simp; done) | (simp [*]; done)), H', ⟨Nat.le_refl _⟩, ⟨rk HO316.out⟩, ⟨bw HB.out⟩⟩
   case round =>
    clear H'
    skip
    obtain ⟨x3_1, x4_1, rfl, HA, HK1, HO_3, HB⟩ := hrel;cases gk with
    | zero => exact absurd HA.out (by simp [laws_toGoneS.l0])
    | succ k1 =>
     have H := HA.out;clear HA;simp only [laws_toGoneS.l0] at H
     by_cases c6 : x4_1 < (l0.length : Int)
     ·rw [if_pos c6] at H
      have c6b0 : decide (x4_1 < (l0.length : Int)) = true := decide_eq_true c6;clear c6
      by_cases c7 : 0 ≤ x4_1
      ·rw [if_pos c7] at H
       have c7b0 : decide (0 ≤ x4_1) = true := decide_eq_true c7;clear c7;replace H := bO_ H;obtain ⟨⟨t318, t319⟩, A8, H⟩ := H
       by_cases c9 : x4_1 < (x3_1.length : Int)
       ·rw [if_pos c9] at H
        have c9b0 : decide (x4_1 < (x3_1.length : Int)) = true := decide_eq_true c9;clear c9;obtain ⟨y320, hy320⟩ : ∃ y_ : List (S41), y_ = (x3_1.set (x4_1 : Int).toNat (⟨t318, t319⟩ : S41)) := ⟨_, rfl⟩;replace H : (laws_toGoneS.l0 k1 l0 y320 (wrap64 (x4_1 + 1))) = some r := by first | (rw [hy320]; with_reducible exact H) | (have H2_ := (Option.bind_some _ _).symm.trans H; rw [hy320]; with_reducible exact H2_) | (have H2_ := (Option.bind_some _ _).symm.trans H; with_reducible exact H2_) | with_reducible exact H | (rw [hy320]; exact H) | exact H
        have Ny320 := Aside0.mk hy320;clear hy320;have H' := Aside0.mk H;clear H;have p317 : 0 ≤ (x4_1 : Int) := oa;have q317 : x4_1 < (l0.length : Int) := oa;obtain ⟨ad317, e317, hx317_0, hx317_1⟩ := at_T109 HR0.out x4_1 p317 q317;cases e317;replace hx317_0 := (HB.out.cell (World.block_lt_of_cell? w _ hx317_0)).trans hx317_0;replace hx317_1 := (HB.out.cell (World.block_lt_of_cell? w _ hx317_1)).trans hx317_1;replace p317 := eq_true p317;replace q317 := eq_true q317
        go_wp2_with (first | ((with_reducible refine gate_callee (f := 95) rfl ?_); refine goesL_ (some 20) rfl rfl Try.func95 (by kernel_rfl) rfl #[.agg #[.int .i64 ((rd_T109 l0 x4_1).f0), .int .i64 ((rd_T109 l0 x4_1).f1)]] rfl gl ?_; (with_reducible refine (laws_toGone.calls ((rd_T109 l0 x4_1).f0) ((rd_T109 l0 x4_1).f1) t318 t319 _ A8.out).mono ?_); rintro e w11 ⟨rfl, hb⟩; refine ⟨_, rfl, ?_⟩; replace HO_3 := Aside0.mk (Kd.R_below (rk HO_3.out) hb); replace HB := Aside0.mk (below_step (bw HB.out) hb); clear hb; have p10 : 0 ≤ (x4_1 : Int) := oa; have q10 : (x4_1 : Int) < ((x3_1.length : Int) : Int) := oa; obtain ⟨go10, co10, eo10, gb10, gl10, cl10, HG10⟩ := Kd.R_form HO_3.out (by omega); (first | cases eo10 | (injection eo10 with ea_ en_ ec_; (first | subst ea_ | (injection ea_ with ea_; subst ea_)); subst ec_; clear en_)); have GB10 := Aside0.mk gb10; have GG10 := Aside0.mk HG10; clear gb10 gl10 HG10; obtain ⟨ce10, hcl10, hM10, hcc10, hfr10⟩ := Kd.R_elem HO_3.out z41 (x4_1 : Int) p10 q10; obtain rfl := k41_openM hM10; have hx10_0 : w11.cell? ⟨go10, (x4_1 : Int).toNat * 2, none⟩ = some (.int .i64 ((rd_T41 x3_1 x4_1).f0)) := hcc10 0 _ rfl; have hx10_1 : w11.cell? ⟨go10, (x4_1 : Int).toNat * 2 + 1, none⟩ = some (.int .i64 ((rd_T41 x3_1 x4_1).f1)) := hcc10 1 _ rfl; have hf10_0 : w11.frozen? ⟨go10, (x4_1 : Int).toNat * 2, none⟩ = false := hfr10 0; have hf10_1 : w11.frozen? ⟨go10, (x4_1 : Int).toNat * 2 + 1, none⟩ = false := hfr10 1; clear hcl10 hcc10 hfr10 hM10; replace p10 := eq_true p10; replace q10 := eq_true q10; have HX12 := Aside0.mk (show Kd.R k41 41 w11 w.heap.size (fun _ => True) (.slice (some ⟨go10, 0, none⟩) x3_1.length co10) x3_1 from (rk HO_3.out)); obtain ⟨ce12, hcl12, hM12, hcc12, hfr12⟩ := Kd.R_elem HX12.out z41 (x4_1 : Int) (oa) (by have h_ : (x4_1 : Int) < ((x3_1.length : Int) : Int) := oa; first | exact h_ | (have e_ := (Kd.R_reads' HO_3.out).1; omega) | simpa using h_); obtain rfl := k41_openM hM12; have HP12 := Kd.R_seg HX12.out (x4_1 : Int) (oa) (by have h_ : (x4_1 : Int) < ((x3_1.length : Int) : Int) := oa; first | exact h_ | (have e_ := (Kd.R_reads' HO_3.out).1; omega) | simpa using h_) (seg := [.int .i64 t318, .int .i64 t319]) (j := 0) hcl12 hcc12 (show 2 ≤ 2 from by decide) (x' := (⟨t318, t319⟩ : S41)) (k41_mkM _ _ _ (⟨t318, t319⟩ : S41) ) (fun _ hk => hk); have hx12_0 := hcc12 0 _ rfl; (try simp only [show (k41).sz = 2 from rfl, Nat.mul_one, Nat.add_zero] at hx12_0); have hf12_0 := hfr12 0; (try simp only [show (k41).sz = 2 from rfl, Nat.mul_one, Nat.add_zero] at hf12_0); have hx12_1 := hcc12 1 _ rfl; (try simp only [show (k41).sz = 2 from rfl, Nat.mul_one, Nat.add_zero] at hx12_1); have hf12_1 := hfr12 1; (try simp only [show (k41).sz = 2 from rfl, Nat.mul_one, Nat.add_zero] at hf12_1); clear hcl12 hcc12 hfr12 hM12) | ((with_reducible refine gate_store (t := 41) (p := 21) rfl ?_); refine store_event (t := 41) (p := 21) (v := ?vo_w13) (w1 := ((w11.setCell ⟨go10, (x4_1 : Int).toNat * 2, none⟩ (.int .i64 t318)).setCell ⟨go10, (x4_1 : Int).toNat * 2 + 1, none⟩ (.int .i64 t319))) ?hg ?ho ?hn ?hr ?_; (case ho => rfl); (case hg => rfl); (case hn => rfl); (case hr => first | (go_simp; done) | (go_simp; rfl)); intro w13 hw; have hg : w11.grownBy w13 (some go10) := (by rw [hw]; exact HP12.2); have hp_ : Kd.R k41 41 w13 w.heap.size (fun _ => True) (.slice (some ⟨go10, 0, none⟩) x3_1.length co10) y320 := (by rw [hw, Ny320.out]; exact HP12.1); clear HP12; replace HO_3 := Aside0.mk (hp_); replace HB := Aside0.mk ((by rw [hw]; exact below_set (below_set (HB.out) GB10.out) GB10.out : Below w.heap.size w w13)); clear hg hw hp_))
        go_roundg k1
        case measure => have := HK1.out; omega
        case rel => exact ⟨(y320), (wrap64 (x4_1 + 1)), (by first | rfl | (simp; done) | (simp [*]; done)), H', ⟨by have := HK1.out; omega⟩, ⟨rk HO_3.out⟩, ⟨bw HB.out⟩⟩
       ·rw [if_neg c9] at H
        exact absurd H (by simp)
      ·rw [if_neg c7] at H
       exact absurd H (by simp)
     ·rw [if_neg c6] at H
      have c6b0 : decide (x4_1 < (l0.length : Int)) = false := decide_eq_false c6;clear c6;obtain rfl := Option.some.inj H;go_wp2
      go_ret
      exact ⟨_, er, by (with_reducible repeat (first | apply Kd.R_alloc | apply Kd.R_drewN | apply Kd.R_drew)); exact HO_3.out, bw HB.out⟩
  ·rw [if_neg c3] at H
   exact absurd H (by simp)
 ·rw [if_neg c2] at H
  exact absurd H (by simp)

def laws_toYard.f (k : Nat) (l0_0 : List (S114)) (l0_1 : List Int) (l0_2 : List Int) (l0_3 : List (S109)) (a0_4 : Int) : Option ((List (S77)) × List Int × List Int × (List (S41)) × Int) := (laws_toArena.f k l0_0 l0_1).bind fun bt353 => ((laws_toIntS.f k l0_2).bind fun t359 => ((laws_toGoneS.f k l0_3).bind fun t362 => (some (bt353.1, bt353.2, t359, t362, a0_4))))
set_option maxHeartbeats 8000000 in
set_option maxRecDepth 100000 in
theorem laws_toYard.calls (k : Nat) (A0_0 : Option Addr) (c0_0 : Nat) (l0_0 : List (S114)) (A0_1 : Option Addr) (c0_1 : Nat) (l0_1 : List Int) (A0_2 : Option Addr) (c0_2 : Nat) (l0_2 : List Int) (A0_3 : Option Addr) (c0_3 : Nat) (l0_3 : List (S109)) (a0_4 : Int) (r1 : List (S77)) (r2 : List Int) (r3 : List Int) (r4 : List (S41)) (r5 : Int) (w : World) (hr0_0 : Kd.C k114 w A0_0 l0_0.length l0_0) (hc0_0 : l0_0.length ≤ c0_0) (hr0_1 : Kd.C (Kd.int .i64) w A0_1 l0_1.length l0_1) (hc0_1 : l0_1.length ≤ c0_1) (hr0_2 : Kd.C (Kd.int .i64) w A0_2 l0_2.length l0_2) (hc0_2 : l0_2.length ≤ c0_2) (hr0_3 : Kd.C k109 w A0_3 l0_3.length l0_3) (hc0_3 : l0_3.length ≤ c0_3) (h : laws_toYard.f k l0_0 l0_1 l0_2 l0_3 a0_4 = some (r1, r2, r3, r4, r5)) :
  Calls Try.prog 32 #[.agg #[.slice A0_0 l0_0.length c0_0, .slice A0_1 l0_1.length c0_1, .slice A0_2 l0_2.length c0_2, .slice A0_3 l0_3.length c0_3, .int .i64 a0_4]] w fun e w' => ∃ v0_ v1_ v2_ v3_ : Value, e = .returned (.agg #[v0_, v1_, v2_, v3_, .int .i64 r5]) ∧ Kd.R k77 77 w' w.heap.size (fun _ => True) v0_ r1 ∧ Kd.R (Kd.int .i64) 3 w' w.heap.size (fun k_ => some k_ ≠ (v2_ : Value).ownBlock) v1_ r2 ∧ Kd.R (Kd.int .i64) 3 w' w.heap.size (fun k_ => some k_ ≠ (v1_ : Value).ownBlock) v2_ r3 ∧ Kd.R k41 41 w' w.heap.size (fun _ => True) v3_ r4 ∧ Below w.heap.size w w' := by
 have hu56 := Try.underlying56;have hu30 := Try.underlying30;have hu53 := Try.underlying53;have hu27 := Try.underlying27;have HR0_0 := Aside0.mk hr0_0;have HC0_0 := Aside0.mk hc0_0;clear hr0_0 hc0_0;have HR0_1 := Aside0.mk hr0_1;have HC0_1 := Aside0.mk hc0_1;clear hr0_1 hc0_1;have HR0_2 := Aside0.mk hr0_2;have HC0_2 := Aside0.mk hc0_2;clear hr0_2 hc0_2;have HR0_3 := Aside0.mk hr0_3;have HC0_3 := Aside0.mk hc0_3;clear hr0_3 hc0_3;have HB := Aside0.mk (Below.refl w.heap.size w);have H : ((laws_toArena.f k l0_0 l0_1).bind fun bt324 => ((laws_toIntS.f k l0_2).bind fun t330 => ((laws_toGoneS.f k l0_3).bind fun t333 => (some (bt324.1, bt324.2, t330, t333, a0_4))))) = some (r1, r2, r3, r4, r5) := h;clear h;replace H := Option.bind_eq_some_iff.mp H;obtain ⟨⟨t324, t327⟩, A20, H⟩ := H;replace H : ((laws_toIntS.f k l0_2).bind fun t330 => ((laws_toGoneS.f k l0_3).bind fun t333 => (some (t324, t327, t330, t333, a0_4)))) = some (r1, r2, r3, r4, r5) := H;have A2 := Aside0.mk A20;clear A20;replace H := Option.bind_eq_some_iff.mp H;obtain ⟨t330, A30, H⟩ := H;replace H : ((laws_toGoneS.f k l0_3).bind fun t333 => (some (t324, t327, t330, t333, a0_4))) = some (r1, r2, r3, r4, r5) := H;have A3 := Aside0.mk A30;clear A30;replace H := Option.bind_eq_some_iff.mp H;obtain ⟨t333, A40, H⟩ := H;replace H : (some (t324, t327, t330, t333, a0_4)) = some (r1, r2, r3, r4, r5) := H;have A4 := Aside0.mk A40;clear A40;simp only [Option.some.injEq, Prod.mk.injEq] at H;obtain ⟨rfl, rfl, rfl, rfl, rfl⟩ := H
 go_enter Try.func32, Try.ntmps32
 go_wp2_with (first | ((with_reducible refine gate_dst (N := 1) rfl ?_); refine box_event ?hg (N := 1) ?hd (cs := #[.slice A0_0 l0_0.length c0_0, .slice A0_1 l0_1.length c0_1, .slice A0_2 l0_2.length c0_2, .slice A0_3 l0_3.length c0_3, .int .i64 a0_4]) (t := 56) ?hr ?_; (case hd => rfl); (case hg => rfl); (case hr => first | (go_simp; done) | (go_simp; rfl)); intro gb321 hg w5 hbox hb; have qB_ := bS_ (bw HB.out) hb; replace HB := Aside0.mk (qB_.2); have BK321 := Aside0.mk (hbox); have GW321 := Aside0.mk ((by rw [hg]; exact qB_.1 : w.heap.size ≤ gb321)); have GE321 := GW321; clear qB_; clear hb hbox hg) | ((with_reducible refine gate_dst (N := 2) rfl ?_); refine box_event ?hg (N := 2) ?hd (cs := #[.slice none 0 0, .slice none 0 0, .slice none 0 0, .slice none 0 0, .int .i64 0]) (t := 30) ?hr ?_; (case hd => rfl); (case hg => rfl); (case hr => first | (go_simp; done) | (go_simp; rfl)); intro gb322 hg w6 hbox hb; have qB_ := bS_ (bw1 HB.out GE321.out) hb; replace HB := Aside0.mk (qB_.2); have BK322 := Aside0.mk (hbox); have GW322 := Aside0.mk ((by rw [hg]; exact qB_.1 : w.heap.size ≤ gb322)); have GE322 := GW322; have NB321_322 := Aside0.mk ((by rw [hg]; exact Nat.ne_of_lt (bL BK321.out) : gb321 ≠ gb322)); have NB322_321 := Aside0.mk ((by rw [hg]; exact Nat.ne_of_gt (bL BK321.out) : gb322 ≠ gb321)); replace BK321 := Aside0.mk (bB BK321.out hb); clear qB_; clear hb hbox hg) | ((with_reducible refine gate_dst (N := 3) rfl ?_); refine box_event ?hg (N := 3) ?hd (cs := #[.slice none 0 0, .slice none 0 0, .slice none 0 0, .slice none 0 0, .int .i64 0]) (t := 30) ?hr ?_; (case hd => rfl); (case hg => rfl); (case hr => first | (go_simp; done) | (go_simp; rfl)); intro gb323 hg w7 hbox hb; have qB_ := bS_ (bw2 HB.out GE321.out GE322.out) hb; replace HB := Aside0.mk (qB_.2); have BK323 := Aside0.mk (hbox); have GW323 := Aside0.mk ((by rw [hg]; exact qB_.1 : w.heap.size ≤ gb323)); have GE323 := GW323; have NB321_323 := Aside0.mk ((by rw [hg]; exact Nat.ne_of_lt (bL BK321.out) : gb321 ≠ gb323)); have NB323_321 := Aside0.mk ((by rw [hg]; exact Nat.ne_of_gt (bL BK321.out) : gb323 ≠ gb321)); replace BK321 := Aside0.mk (bB BK321.out hb); have NB322_323 := Aside0.mk ((by rw [hg]; exact Nat.ne_of_lt (bL BK322.out) : gb322 ≠ gb323)); have NB323_322 := Aside0.mk ((by rw [hg]; exact Nat.ne_of_gt (bL BK322.out) : gb323 ≠ gb322)); replace BK322 := Aside0.mk (bB BK322.out hb); clear qB_; clear hb hbox hg; have hnb8 := NB321_322.out; have hnc8 := NB322_321.out; have hnb9 := NB321_323.out; have hnc9 := NB323_321.out; obtain ⟨hcz10_0, hcz10_1, hcz10_2, hcz10_3, hcz10_4, hfz10_0, hfz10_1, hfz10_2, hfz10_3, hfz10_4⟩ := cs5_ BK321.out) | ((with_reducible refine gate_callee (f := 72) rfl ?_); refine goesL_ (some 6) rfl rfl Try.func72 (by kernel_rfl) rfl #[.agg #[.slice A0_0 l0_0.length c0_0, .slice A0_1 l0_1.length c0_1]] rfl gl ?_; (with_reducible refine (laws_toArena.calls k _ _ l0_0 _ _ l0_1 t324 t327 _ ?side1 ?side2 ?side3 ?side4 A2.out).mono ?_); (case side1 => exact ck (Kd.C_below HR0_0.out HB.out)); (case side2 => exact HC0_0.out); (case side3 => exact ck (Kd.C_below HR0_1.out HB.out)); (case side4 => exact HC0_1.out); rintro e w11 ⟨v325, v328, rfl, ho0, ho1, hb⟩; refine ⟨_, rfl, ?_⟩; have qB_ := bS_ (bw3 HB.out GE321.out GE322.out GE323.out) hb; have HO326 := Aside0.mk (Kd.R_lower ho0 qB_.1); have HO329 := Aside0.mk (Kd.R_lower ho1 qB_.1); replace BK321 := Aside0.mk (bB BK321.out hb); replace BK322 := Aside0.mk (bB BK322.out hb); replace BK323 := Aside0.mk (bB BK323.out hb); replace HB := Aside0.mk (qB_.2); clear qB_; clear hb ho0 ho1; obtain ⟨Ao12, co12, eo12⟩ := Kd.R_slice HO326.out; subst eo12; have hnb13 := NB323_322.out; have hnc13 := NB322_323.out; obtain ⟨hcz14_0, hcz14_1, hcz14_2, hcz14_3, hcz14_4, hfz14_0, hfz14_1, hfz14_2, hfz14_3, hfz14_4⟩ := cs5_ BK323.out; obtain ⟨Ao15, co15, eo15⟩ := Kd.R_slice HO329.out; subst eo15; obtain ⟨hcz16_0, hcz16_1, hcz16_2, hcz16_3, hcz16_4, hfz16_0, hfz16_1, hfz16_2, hfz16_3, hfz16_4⟩ := cs5_ BK321.out) | ((with_reducible refine gate_callee (f := 73) rfl ?_); refine goesL_ (some 10) rfl rfl Try.func73 (by kernel_rfl) rfl #[.slice A0_2 l0_2.length c0_2] rfl gl ?_; (with_reducible refine (laws_toIntS.calls k _ _ l0_2 t330 _ ?side1 ?side2 A3.out).mono ?_); (case side1 => exact Kd.C_below HR0_2.out (bw3 HB.out GE321.out GE322.out GE323.out)); (case side2 => exact HC0_2.out); rintro e w17 ⟨v331, rfl, ho0, hb⟩; refine ⟨_, rfl, ?_⟩; have qB_ := bS_ (bw3 HB.out GE321.out GE322.out GE323.out) hb; have q0_ := aR_ hb (Kd.R_mono (Kd.R_far (Kd.R_far (Kd.R_types HO329.out BK323.out (by decide)) (fun _ hk => hk.2) _) (fun _ hk => hk.2) _) (fun _ h_ => h_.1)); replace HO326 := Aside0.mk (Kd.R_below (by (with_reducible repeat (first | apply Kd.R_alloc | apply Kd.R_drewN | apply Kd.R_drew)); exact (Kd.R_mono (Kd.R_far (Kd.R_far (Kd.R_types HO326.out BK323.out (by decide)) (fun _ hk => hk.2) _) (fun _ hk => hk.2) _) (fun _ h_ => h_.1))) hb); replace HO329 := Aside0.mk (Kd.R_elder' (rk q0_) (Kd.R_base ho0) hb); have HO332 := Aside0.mk (Kd.R_lower (Kd.R_new' ho0 (Kd.R_lt (rk q0_))) qB_.1); replace BK321 := Aside0.mk (bF_ BK321.out hb (by (repeat (first | (with_reducible first | refine hN_ ?_ _ | refine hD_ ?_ | refine hA_ ?_ _ BK321.out) | refine hF_ ?_ NB321_323.out _)); rfl)); replace BK322 := Aside0.mk (bF_ BK322.out hb (by (repeat (first | (with_reducible first | refine hN_ ?_ _ | refine hD_ ?_ | refine hA_ ?_ _ BK322.out) | refine hF_ ?_ NB322_323.out _)); rfl)); replace BK323 := Aside0.mk (blk_below (g := gb323) (o := .cells #[.slice Ao12 t324.length co12, .slice Ao15 t327.length co15, .slice none 0 0, .slice none 0 0, .int .i64 0] 30 (0, 0)) (by apply bE_; (case h => (repeat (first | (with_reducible first | refine blk_drewN ?_ _ | refine blk_drew ?_ | refine blk_alloc ?_ _ | apply blk_set))); exact BK323.out); (case e => rfl)) hb); replace HB := Aside0.mk (qB_.2); clear qB_ q0_; clear hb ho0; obtain ⟨Ao18, co18, eo18⟩ := Kd.R_slice HO332.out; subst eo18; obtain ⟨hcz19_0, hcz19_1, hcz19_2, hcz19_3, hcz19_4, hfz19_0, hfz19_1, hfz19_2, hfz19_3, hfz19_4⟩ := cs5_ BK323.out; obtain ⟨hcz20_0, hcz20_1, hcz20_2, hcz20_3, hcz20_4, hfz20_0, hfz20_1, hfz20_2, hfz20_3, hfz20_4⟩ := cs5_ BK321.out) | ((with_reducible refine gate_callee (f := 74) rfl ?_); refine goesL_ (some 14) rfl rfl Try.func74 (by kernel_rfl) rfl #[.slice A0_3 l0_3.length c0_3] rfl gl ?_; (with_reducible refine (laws_toGoneS.calls k _ _ l0_3 t333 _ ?side1 ?side2 A4.out).mono ?_); (case side1 => exact Kd.C_below HR0_3.out (bw3 HB.out GE321.out GE322.out GE323.out)); (case side2 => exact HC0_3.out); rintro e w21 ⟨v334, rfl, ho0, hb⟩; refine ⟨_, rfl, ?_⟩; have qB_ := bS_ (bw3 HB.out GE321.out GE322.out GE323.out) hb; replace HO326 := Aside0.mk (Kd.R_below (by (with_reducible repeat (first | apply Kd.R_alloc | apply Kd.R_drewN | apply Kd.R_drew)); exact (Kd.R_mono (Kd.R_far (Kd.R_types HO326.out BK323.out (by decide)) (fun _ hk => hk.2) _) (fun _ h_ => h_.1))) hb); replace HO329 := Aside0.mk (Kd.R_below (by (with_reducible repeat (first | apply Kd.R_alloc | apply Kd.R_drewN | apply Kd.R_drew)); exact (Kd.R_mono (Kd.R_far (Kd.R_types HO329.out BK323.out (by decide)) (fun _ hk => hk.2) _) (fun _ h_ => h_.1))) hb); replace HO332 := Aside0.mk (Kd.R_below (by (with_reducible repeat (first | apply Kd.R_alloc | apply Kd.R_drewN | apply Kd.R_drew)); exact (Kd.R_mono (Kd.R_far (Kd.R_types HO332.out BK323.out (by decide)) (fun _ hk => hk.2) _) (fun _ h_ => h_.1))) hb); have HO335 := Aside0.mk (Kd.R_lower ho0 qB_.1); replace BK321 := Aside0.mk (bF_ BK321.out hb (by (repeat (first | (with_reducible first | refine hN_ ?_ _ | refine hD_ ?_ | refine hA_ ?_ _ BK321.out) | refine hF_ ?_ NB321_323.out _)); rfl)); replace BK322 := Aside0.mk (bF_ BK322.out hb (by (repeat (first | (with_reducible first | refine hN_ ?_ _ | refine hD_ ?_ | refine hA_ ?_ _ BK322.out) | refine hF_ ?_ NB322_323.out _)); rfl)); replace BK323 := Aside0.mk (blk_below (g := gb323) (o := .cells #[.slice Ao12 t324.length co12, .slice Ao15 t327.length co15, .slice Ao18 t330.length co18, .slice none 0 0, .int .i64 0] 30 (0, 0)) (by apply bE_; (case h => (repeat (first | (with_reducible first | refine blk_drewN ?_ _ | refine blk_drew ?_ | refine blk_alloc ?_ _ | apply blk_set))); exact BK323.out); (case e => rfl)) hb); replace HB := Aside0.mk (qB_.2); clear qB_; clear hb ho0; obtain ⟨Ao22, co22, eo22⟩ := Kd.R_slice HO335.out; subst eo22; obtain ⟨hcz23_0, hcz23_1, hcz23_2, hcz23_3, hcz23_4, hfz23_0, hfz23_1, hfz23_2, hfz23_3, hfz23_4⟩ := cs5_ BK323.out; obtain ⟨hcz24_0, hcz24_1, hcz24_2, hcz24_3, hcz24_4, hfz24_0, hfz24_1, hfz24_2, hfz24_3, hfz24_4⟩ := cs5_ BK321.out; obtain ⟨hcz25_0, hcz25_1, hcz25_2, hcz25_3, hcz25_4, hfz25_0, hfz25_1, hfz25_2, hfz25_3, hfz25_4⟩ := cs5_ BK322.out))
 refine bodyPost_ret (results_cell_row rfl _ _ gb322 30 #[.slice Ao12 t324.length co12, .slice Ao15 t327.length co15, .slice Ao18 t330.length co18, .slice Ao22 t333.length co22, .int .i64 a0_4] (0, 0) _ rfl (by (with_reducible repeat (first | refine blk_drewN ?_ _ | refine blk_drew ?_ | refine blk_alloc ?_ _)); refine blk_put (cs := #[.slice Ao12 t324.length co12, .slice Ao15 t327.length co15, .slice Ao18 t330.length co18, .slice Ao22 t333.length co22, .int .i64 0]) ?_ 4 _ rfl; refine blk_put (cs := #[.slice Ao12 t324.length co12, .slice Ao15 t327.length co15, .slice Ao18 t330.length co18, .slice none 0 0, .int .i64 0]) ?_ 3 _ rfl; refine blk_put (cs := #[.slice Ao12 t324.length co12, .slice Ao15 t327.length co15, .slice none 0 0, .slice none 0 0, .int .i64 0]) ?_ 2 _ rfl; refine blk_put (cs := #[.slice Ao12 t324.length co12, .slice none 0 0, .slice none 0 0, .slice none 0 0, .int .i64 0]) ?_ 1 _ rfl; refine blk_put (cs := #[.slice none 0 0, .slice none 0 0, .slice none 0 0, .slice none 0 0, .int .i64 0]) ?_ 0 _ rfl; (with_reducible repeat (first | refine blk_drewN ?_ _ | refine blk_drew ?_ | refine blk_alloc ?_ _)); refine blk_far ?_ NB322_323.out _; refine blk_far ?_ NB322_323.out _; (with_reducible repeat (first | refine blk_drewN ?_ _ | refine blk_drew ?_ | refine blk_alloc ?_ _)); exact BK322.out) Try.underlying30 rfl (by kernel_rfl)) rfl ?_;exact ⟨_, _, _, _, er, by (with_reducible repeat (first | apply Kd.R_alloc | apply Kd.R_drewN | apply Kd.R_drew)); exact Kd.R_mono (rF5_ (Kd.R_far (Kd.R_far (Kd.R_types (Kd.R_types HO326.out BK323.out (by decide)) BK322.out (by decide)) (fun _ hk => hk.1.2) _) (fun _ hk => hk.1.2) _) (fun _ hk => hk.2)) (fun _ hk => trivial), by (with_reducible repeat (first | apply Kd.R_alloc | apply Kd.R_drewN | apply Kd.R_drew)); exact Kd.R_mono (rF5_ (Kd.R_far (Kd.R_far (Kd.R_types (Kd.R_types HO329.out BK323.out (by decide)) BK322.out (by decide)) (fun _ hk => hk.1.2) _) (fun _ hk => hk.1.2) _) (fun _ hk => hk.2)) (fun _ hk => hk.1.1.2), by (with_reducible repeat (first | apply Kd.R_alloc | apply Kd.R_drewN | apply Kd.R_drew)); exact Kd.R_mono (rF5_ (Kd.R_far (Kd.R_far (Kd.R_types (Kd.R_types HO332.out BK323.out (by decide)) BK322.out (by decide)) (fun _ hk => hk.1.2) _) (fun _ hk => hk.1.2) _) (fun _ hk => hk.2)) (fun _ hk => hk.1.1.2), by (with_reducible repeat (first | apply Kd.R_alloc | apply Kd.R_drewN | apply Kd.R_drew)); exact Kd.R_mono (rF5_ (Kd.R_far (Kd.R_far (Kd.R_types (Kd.R_types HO335.out BK323.out (by decide)) BK322.out (by decide)) (fun _ hk => hk.1.2) _) (fun _ hk => hk.1.2) _) (fun _ hk => hk.2)) (fun _ hk => trivial), bw3 HB.out GE321.out GE322.out GE323.out⟩

end Go.Proofs.Ytemdjfiimgjiaaa.S
namespace Go.Proofs.Ytemdjfiimgjiaaa.S
open Go.Proofs.Ytemdjfiimgjiaaa.Sq
open Go.RowKit Go.Proofs.YtemdjfiimgjiaaaW.PrintWords Go.Proofs.YtemdjfiimgjiaaaW.PrintLast Go.Proofs.YtemdjfiimgjiaaaW.PrintMore
attribute [local go_sem] max2_int min2_int max_two min_two max_three min_three max_four min_four   -- for this text's walks alone
set_option linter.unusedVariables false
set_option linter.unusedSimpArgs false

def spec_l1In.f (a0 : Int) (a1 : Int) (a2 : Int) : Option (Bool) := if a0 ≥ a1 then (some (decide (a0 ≤ a2))) else (some false)
set_option maxHeartbeats 8000000 in
set_option maxRecDepth 100000 in
theorem spec_l1In.calls (a0 : Int) (a1 : Int) (a2 : Int) (r : Bool) (w : World) (h : spec_l1In.f a0 a1 a2 = some r) :
  Calls Try.prog 55 #[.int .i64 a0, .int .i64 a1, .int .i64 a2] w fun e w' => e = .returned (.bool r) ∧ Drawn0 w w' := by
 have H : (if a0 ≥ a1 then (some (decide (a0 ≤ a2))) else (some false)) = some r := h;clear h
 by_cases c4 : a0 ≥ a1
 ·rw [if_pos c4] at H
  have c4b0 : decide (a1 ≤ a0) = true := decide_eq_true c4;clear c4;obtain rfl := Option.some.inj H
  go_enter Try.func55, Try.ntmps55
  go_wp2
  go_ret
  exact ⟨by first | rfl | (simp; done) | (simp [*]; done), by repeat (first | exact Drawn0.refl _ | apply Drawn0.step)⟩
 ·rw [if_neg c4] at H
  have c4b0 : decide (a1 ≤ a0) = false := decide_eq_false c4;clear c4;obtain rfl := Option.some.inj H
  go_enter Try.func55, Try.ntmps55
  go_wp2
  go_ret
  exact ⟨by first | rfl | (simp; done) | (simp [*]; done), by repeat (first | exact Drawn0.refl _ | apply Drawn0.step)⟩

def spec_l1Has.l0 : Nat → List Int → Int → Int → Option (Bool)
 | 0, _, _, _ => none
 | k + 1, x0, x1, x5 => if x5 < (x0.length : Int) then (if 0 ≤ x5 then (if (rd x0 x5) = x1 then (some true) else (spec_l1Has.l0 k x0 x1 (wrap64 (x5 + 1)))) else (none)) else (some false)
def spec_l1Has.f (k : Nat) (l0 : List Int) (a1 : Int) : Option (Bool) := spec_l1Has.l0 k l0 a1 0
set_option maxHeartbeats 8000000 in
set_option maxRecDepth 100000 in
theorem spec_l1Has.calls (k : Nat) (A0 : Option Addr) (c0 : Nat) (l0 : List Int) (a1 : Int) (r : Bool) (w : World) (hr0 : Kd.C (Kd.int .i64) w A0 l0.length l0) (hc0 : l0.length ≤ c0) (h : spec_l1Has.f k l0 a1 = some r) :
  Calls Try.prog 75 #[.slice A0 l0.length c0, .int .i64 a1] w fun e w' => e = .returned (.bool r) ∧ Drawn0 w w' := by
 have HR0 := Aside0.mk hr0;have HC0 := Aside0.mk hc0;clear hr0 hc0;have H : (spec_l1Has.l0 k l0 a1 0) = some r := h;clear h;have H' := Aside0.mk H;clear H
 go_enter Try.func75, Try.ntmps75
 go_wp2
 go_loopg [5] k (fun kq v5 w' => ∃ (x5_1 : Int), v5 = .int .i64 x5_1 ∧ Aside0 (spec_l1Has.l0 kq l0 a1 x5_1 = some r) ∧ Aside0 (kq ≤ k) ∧ Drawn0 w w')
 case atStart => exact ⟨(0), (by first | rfl | (simp; done) | (simp [*]; done)), H', ⟨Nat.le_refl _⟩, by repeat (first | exact Drawn0.refl _ | apply Drawn0.step)⟩
 case round =>
  clear H'
  try clear p2
  obtain ⟨x5_1, rfl, HA, HK1, ⟨m1, rfl⟩⟩ := hrel;cases gk with
  | zero => exact absurd HA.out (by simp [spec_l1Has.l0])
  | succ k1 =>
   have H := HA.out;clear HA;simp only [spec_l1Has.l0] at H
   by_cases c3 : x5_1 < (l0.length : Int)
   ·rw [if_pos c3] at H
    have c3b0 : decide (x5_1 < (l0.length : Int)) = true := decide_eq_true c3;clear c3
    by_cases c4 : 0 ≤ x5_1
    ·rw [if_pos c4] at H
     have c4b0 : decide (0 ≤ x5_1) = true := decide_eq_true c4;clear c4
     by_cases c5 : (rd l0 x5_1) = a1
     ·rw [if_pos c5] at H
      have c5b0 : ((rd l0 x5_1) == a1) = true := beq_iff_eq.mpr c5;have c5b1 : ((rd l0 x5_1) != a1) = false := bne_eq_false_iff_eq.mpr c5;clear c5;obtain rfl := Option.some.inj H;have p365 : 0 ≤ (x5_1 : Int) := oa;have q365 : x5_1 < (l0.length : Int) := oa;obtain ⟨ad365, e365, hx365_0⟩ := Kd.at_int HR0.out x5_1 p365 q365;cases e365;replace p365 := eq_true p365;replace q365 := eq_true q365;go_wp2
      go_ret
      exact ⟨by first | rfl | (simp; done) | (simp [*]; done), by repeat (first | exact Drawn0.refl _ | apply Drawn0.step)⟩
     ·rw [if_neg c5] at H
      have c5b0 : ((rd l0 x5_1) == a1) = false := beq_eq_false_iff_ne.mpr c5;have c5b1 : ((rd l0 x5_1) != a1) = true := bne_iff_ne.mpr c5;have H' := Aside0.mk H;clear H;have p365 : 0 ≤ (x5_1 : Int) := oa;have q365 : x5_1 < (l0.length : Int) := oa;obtain ⟨ad365, e365, hx365_0⟩ := Kd.at_int HR0.out x5_1 p365 q365;cases e365;replace p365 := eq_true p365;replace q365 := eq_true q365;go_wp2
      go_roundg k1
      case measure => have := HK1.out; omega
      case rel => exact ⟨(wrap64 (x5_1 + 1)), (by first | rfl | (simp; done) | (simp [*]; done)), H', ⟨by have := HK1.out; omega⟩, by repeat (first | exact Drawn0.refl _ | apply Drawn0.step)⟩
    ·rw [if_neg c4] at H
     exact absurd H (by simp)
   ·rw [if_neg c3] at H
    have c3b0 : decide (x5_1 < (l0.length : Int)) = false := decide_eq_false c3;clear c3;obtain rfl := Option.some.inj H;go_wp2
    go_ret
    exact ⟨by first | rfl | (simp; done) | (simp [*]; done), by repeat (first | exact Drawn0.refl _ | apply Drawn0.step)⟩

def spec_l1Value.f (a0 : Int) : Option (Bool) := (spec_l1In.f a0 (-1000000000) 1000000000).bind fun t366 => (some t366)
set_option maxHeartbeats 8000000 in
set_option maxRecDepth 100000 in
theorem spec_l1Value.calls (a0 : Int) (r : Bool) (w : World) (h : spec_l1Value.f a0 = some r) :
  Calls Try.prog 93 #[.int .i64 a0] w fun e w' => e = .returned (.bool r) ∧ Drawn0 w w' := by
 have H : ((spec_l1In.f a0 (-1000000000) 1000000000).bind fun t337 => (some t337)) = some r := h;clear h;replace H := bO_ H;obtain ⟨t337, A2, H⟩ := H;obtain rfl := Option.some.inj H
 go_enter Try.func93, Try.ntmps93
 go_wp2_with (first | ((with_reducible refine gate_callee (f := 55) rfl ?_); refine goesL_ (some 4) rfl rfl Try.func55 (by kernel_rfl) rfl #[.int .i64 a0, .int .i64 (-1000000000), .int .i64 1000000000] rfl gl ?_; (with_reducible refine (spec_l1In.calls a0 (-1000000000) 1000000000 t337 _ A2.out).mono ?_); rintro e w' ⟨rfl, ⟨nd, rfl⟩⟩; refine ⟨_, rfl, ?_⟩))
 go_ret
 exact ⟨by first | rfl | (simp; done) | (simp [*]; done), by repeat (first | exact Drawn0.refl _ | apply Drawn0.step)⟩


end Go.Proofs.Ytemdjfiimgjiaaa.S
namespace Go.Proofs.Ytemdjfiimgjiaaa.S
open Go.Proofs.Ytemdjfiimgjiaaa.Sq
open Go.RowKit Go.Proofs.YtemdjfiimgjiaaaW.PrintWords Go.Proofs.YtemdjfiimgjiaaaW.PrintLast Go.Proofs.YtemdjfiimgjiaaaW.PrintMore
attribute [local go_sem] max2_int min2_int max_two min_two max_three min_three max_four min_four   -- for this text's walks alone
set_option linter.unusedVariables false
set_option linter.unusedSimpArgs false

mutual
def spec_ArenaOk.l0 : Nat → Int → Int → List (S77) → List Int → Option (Bool)
 | 0, _, _, _, _ => none
 | k + 1, x3, x4, x368000, x368001 => if x4 < (x368000.length : Int) then (if 0 ≤ x4 then ((spec_l1In.f ((rd_T77 x368000 x4).f0) 0 5).bind fun t371 => (if t371 = true then (if ((rd_T77 x368000 x4).f1 = true) then (spec_ArenaOk.j1 k x3 x4 false x368000 x368001 ((rd_T77 x368000 x4).f0) ((rd_T77 x368000 x4).f1) ((rd_T77 x368000 x4).f2.f0) ((rd_T77 x368000 x4).f2.f1) ((rd_T77 x368000 x4).f2.f2)) else (spec_ArenaOk.j1 k x3 x4 (((rd_T77 x368000 x4).f0) == 5) x368000 x368001 ((rd_T77 x368000 x4).f0) ((rd_T77 x368000 x4).f1) ((rd_T77 x368000 x4).f2.f0) ((rd_T77 x368000 x4).f2.f1) ((rd_T77 x368000 x4).f2.f2))) else (spec_ArenaOk.j1 k x3 x4 true x368000 x368001 ((rd_T77 x368000 x4).f0) ((rd_T77 x368000 x4).f1) ((rd_T77 x368000 x4).f2.f0) ((rd_T77 x368000 x4).f2.f1) ((rd_T77 x368000 x4).f2.f2)))) else (none)) else (spec_ArenaOk.l2 k x3 0 x368000 x368001)
def spec_ArenaOk.j1 : Nat → Int → Int → Bool → List (S77) → List Int → Int → Bool → Int → Int → Int → Option (Bool)
 | 0, _, _, _, _, _, _, _, _, _, _ => none
 | k + 1, x3, x4, x39, x368000, x368001, x371000, x371001, x371002, x371003, x371004 => if x39 = true then (some false) else (spec_ArenaOk.l1 k x3 x4 0 x368000 x368001 x371000 x371001 x371002 x371003 x371004)
def spec_ArenaOk.l1 : Nat → Int → Int → Int → List (S77) → List Int → Int → Bool → Int → Int → Int → Option (Bool)
 | 0, _, _, _, _, _, _, _, _, _, _ => none
 | k + 1, x3, x4, x6, x368000, x368001, x371000, x371001, x371002, x371003, x371004 => if x6 < 3 then (if x6 = 0 then ((spec_l1Value.f x371002).bind fun t372 => (if t372 = true then (spec_ArenaOk.l1 k x3 x4 (wrap64 (x6 + 1)) x368000 x368001 x371000 x371001 x371002 x371003 x371004) else (some false))) else (if x6 = 1 then ((spec_l1Value.f x371003).bind fun t373 => (if t373 = true then (spec_ArenaOk.l1 k x3 x4 (wrap64 (x6 + 1)) x368000 x368001 x371000 x371001 x371002 x371003 x371004) else (some false))) else (if x6 = 2 then ((spec_l1Value.f x371004).bind fun t374 => (if t374 = true then (spec_ArenaOk.l1 k x3 x4 (wrap64 (x6 + 1)) x368000 x368001 x371000 x371001 x371002 x371003 x371004) else (some false))) else (none)))) else (if x371001 = true then (if x371000 < 5 then (spec_ArenaOk.l0 k (wrap64 (x3 + 1)) (wrap64 (x4 + 1)) x368000 x368001) else (spec_ArenaOk.l0 k x3 (wrap64 (x4 + 1)) x368000 x368001)) else (spec_ArenaOk.l0 k x3 (wrap64 (x4 + 1)) x368000 x368001))
def spec_ArenaOk.l2 : Nat → Int → Int → List (S77) → List Int → Option (Bool)
 | 0, _, _, _, _ => none
 | k + 1, x3, x7, x368000, x368001 => if x7 < (x368001.length : Int) then (if 0 ≤ x7 then ((spec_l1In.f (rd x368001 x7) 0 (wrap64 ((x368000.length : Int) - 1))).bind fun t376 => (if t376 = true then (if 0 ≤ (rd x368001 x7) then (if (rd x368001 x7) < (x368000.length : Int) then (if ((rd_T77 x368000 (rd x368001 x7)).f1 = true) then (if ((rd_T77 x368000 (rd x368001 x7)).f0) = 5 then (some false) else (if x7 ≤ (x368001.length : Int) then ((spec_l1Has.f k (x368001.take (x7 : Int).toNat) (rd x368001 x7)).bind fun t380 => (if t380 = true then (some false) else (spec_ArenaOk.l2 k x3 (wrap64 (x7 + 1)) x368000 x368001))) else (none))) else (some false)) else (none)) else (none)) else (some false))) else (none)) else (some ((x368001.length : Int) == x3))
end
def spec_ArenaOk.f (k : Nat) (l0_0 : List (S77)) (l0_1 : List Int) : Option (Bool) := (spec_l1In.f (l0_0.length : Int) 1 24).bind fun t368 => (if t368 = true then (spec_ArenaOk.l0 k 0 0 l0_0 l0_1) else (some false))
set_option maxHeartbeats 8000000 in
set_option maxRecDepth 100000 in
theorem spec_ArenaOk.calls (k : Nat) (A0_0 : Option Addr) (c0_0 : Nat) (l0_0 : List (S77)) (A0_1 : Option Addr) (c0_1 : Nat) (l0_1 : List Int) (r : Bool) (w : World) (hr0_0 : Kd.C k77 w A0_0 l0_0.length l0_0) (hc0_0 : l0_0.length ≤ c0_0) (hr0_1 : Kd.C (Kd.int .i64) w A0_1 l0_1.length l0_1) (hc0_1 : l0_1.length ≤ c0_1) (h : spec_ArenaOk.f k l0_0 l0_1 = some r) :
  Calls Try.prog 68 #[.agg #[.slice A0_0 l0_0.length c0_0, .slice A0_1 l0_1.length c0_1]] w fun e w' => e = .returned (.bool r) ∧ Below w.heap.size w w' := by
 have hu27 := Try.underlying27;have hu77 := Try.underlying77;have HR0_0 := Aside0.mk hr0_0;have HC0_0 := Aside0.mk hc0_0;clear hr0_0 hc0_0;have HR0_1 := Aside0.mk hr0_1;have HC0_1 := Aside0.mk hc0_1;clear hr0_1 hc0_1;have HB := Aside0.mk (Below.refl w.heap.size w);have H : ((spec_l1In.f (l0_0.length : Int) 1 24).bind fun t339 => (if t339 = true then (spec_ArenaOk.l0 k 0 0 l0_0 l0_1) else (some false))) = some r := h;clear h;replace H := bO_ H;obtain ⟨t339, A2, H⟩ := H;have HC3 := Aside0.mk H;clear H
 go_enter Try.func68, Try.ntmps68
 go_upto_if 13 with (first | ((with_reducible refine gate_dst (N := 1) rfl ?_); refine box_event ?hg (N := 1) ?hd (cs := #[.slice A0_0 l0_0.length c0_0, .slice A0_1 l0_1.length c0_1]) (t := 27) ?hr ?_; (case hd => rfl); (case hg => rfl); (case hr => first | (go_simp; done) | (go_simp; rfl)); intro gb338 hg w4 hbox hb; have qB_ := bS_ (bw HB.out) hb; replace HB := Aside0.mk (qB_.2); have BK338 := Aside0.mk (hbox); have GW338 := Aside0.mk ((by rw [hg]; exact qB_.1 : w.heap.size ≤ gb338)); have GE338 := GW338; clear qB_; clear hb hbox hg; obtain ⟨hcz5_0, hcz5_1, hfz5_0, hfz5_1⟩ := cs2_ BK338.out) | ((with_reducible refine gate_callee (f := 55) rfl ?_); refine goesL_ (some 12) rfl rfl Try.func55 (by kernel_rfl) rfl #[.int .i64 (l0_0.length : Int), .int .i64 1, .int .i64 24] rfl gl ?_; (with_reducible refine (spec_l1In.calls (l0_0.length : Int) 1 24 t339 _ A2.out).mono ?_); rintro e w' ⟨rfl, ⟨nd, rfl⟩⟩; refine ⟨_, rfl, ?_⟩))
 (try simp only [Act.put, sx_, sy_, sz_])
 have H := HC3.out;clear HC3
 by_cases c6 : t339 = true
 ·subst c6
  rw [if_pos rfl] at H;have H' := Aside0.mk H;clear H;go_wp2
  go_loopg [3, 4] k (fun kq v3 v4 w' => ∃ (x3_1 : Int) (x4_1 : Int), v3 = .int .i64 x3_1 ∧ v4 = .int .i64 x4_1 ∧ Aside0 (spec_ArenaOk.l0 kq x3_1 x4_1 l0_0 l0_1 = some r) ∧ Aside0 (kq ≤ k) ∧ Aside0 (w'.heap[gb338]? = some (.cells #[(.slice A0_0 l0_0.length c0_0), (.slice A0_1 l0_1.length c0_1)] 27 (0, 0))) ∧ Aside0 (Below w.heap.size w w'))
  case atStart => exact ⟨(0), (0), (by first | rfl | (simp; done) | (simp [*]; done)), (by first | rfl | (simp; done) | (simp [*]; done)), H', ⟨Nat.le_refl _⟩, ⟨BK338.out⟩, ⟨bw1 HB.out GE338.out⟩⟩
  case round =>
   clear H';(try clear p2); (try clear c5); (try clear c6); (try clear hcz5_0 hcz5_1); (try clear hfz5_0 hfz5_1)
   obtain ⟨x3_1, x4_1, rfl, rfl, HA, HK1, BK338, HB⟩ := hrel;cases gk with
   | zero => exact absurd HA.out (by simp [spec_ArenaOk.l0])
   | succ k1 =>
    have H := HA.out;clear HA;simp only [spec_ArenaOk.l0] at H
    by_cases c7 : x4_1 < (l0_0.length : Int)
    ·rw [if_pos c7] at H
     have c7b0 : decide (x4_1 < (l0_0.length : Int)) = true := decide_eq_true c7;clear c7;(first | rw [c7b0] | (simp only [i64_w, i32_w]; rw [c7b0]) | skip)
     by_cases c8 : 0 ≤ x4_1
     ·rw [if_pos c8] at H
      have c8b0 : decide (0 ≤ x4_1) = true := decide_eq_true c8;clear c8;obtain ⟨bq9, hbq9⟩ : ∃ b_ : Bool, b_ = ((rd_T77 l0_0 x4_1).f1) := ⟨_, rfl⟩;replace H : ((spec_l1In.f ((rd_T77 l0_0 x4_1).f0) 0 5).bind fun t342 => (if t342 = true then (if (bq9 = true) then (spec_ArenaOk.j1 k1 x3_1 x4_1 false l0_0 l0_1 ((rd_T77 l0_0 x4_1).f0) bq9 ((rd_T77 l0_0 x4_1).f2.f0) ((rd_T77 l0_0 x4_1).f2.f1) ((rd_T77 l0_0 x4_1).f2.f2)) else (spec_ArenaOk.j1 k1 x3_1 x4_1 (((rd_T77 l0_0 x4_1).f0) == 5) l0_0 l0_1 ((rd_T77 l0_0 x4_1).f0) bq9 ((rd_T77 l0_0 x4_1).f2.f0) ((rd_T77 l0_0 x4_1).f2.f1) ((rd_T77 l0_0 x4_1).f2.f2))) else (spec_ArenaOk.j1 k1 x3_1 x4_1 true l0_0 l0_1 ((rd_T77 l0_0 x4_1).f0) bq9 ((rd_T77 l0_0 x4_1).f2.f0) ((rd_T77 l0_0 x4_1).f2.f1) ((rd_T77 l0_0 x4_1).f2.f2)))) = some r := by first | (rw [← hbq9] at H; exact H) | exact H
      have Nbq9 := Aside0.mk hbq9;clear hbq9;have HC10 := Aside0.mk H;clear H;obtain ⟨hcz11_0, hcz11_1, hfz11_0, hfz11_1⟩ := cs2_ BK338.out;have p340 : 0 ≤ (x4_1 : Int) := oa;have q340 : x4_1 < (l0_0.length : Int) := oa;obtain ⟨ad340, e340, hx340_0, hx340_1, hx340_2, hx340_3, hx340_4⟩ := at_T77 HR0_0.out x4_1 p340 q340
      (try rw [← Nbq9.out] at hx340_1)
      cases e340;replace hx340_0 := (HB.out.cell (World.block_lt_of_cell? w _ hx340_0)).trans hx340_0;replace hx340_1 := (HB.out.cell (World.block_lt_of_cell? w _ hx340_1)).trans hx340_1;replace hx340_2 := (HB.out.cell (World.block_lt_of_cell? w _ hx340_2)).trans hx340_2;replace hx340_3 := (HB.out.cell (World.block_lt_of_cell? w _ hx340_3)).trans hx340_3;replace hx340_4 := (HB.out.cell (World.block_lt_of_cell? w _ hx340_4)).trans hx340_4;replace p340 := eq_true p340;replace q340 := eq_true q340
      go_upto_region 8 with (first | ((with_reducible refine gate_dst (N := 5) rfl ?_); refine box_event ?hg (N := 5) ?hd (cs := #[.int .i64 0, .bool false, .int .i64 0, .int .i64 0, .int .i64 0]) (t := 77) ?hr ?_; (case hd => rfl); (case hg => rfl); (case hr => first | (go_simp; done) | (go_simp; rfl)); intro gb341 hg w12 hbox hb; have BK341 := Aside0.mk (hbox); have GW341 := Aside0.mk ((by rw [hg]; exact (below_size HB.out) : w.heap.size ≤ gb341)); replace HB := Aside0.mk (below_step HB.out hb); have GE341 := GW341; have NB338_341 := Aside0.mk ((by rw [hg]; exact Nat.ne_of_lt (blk_lt BK338.out) : gb338 ≠ gb341)); have NB341_338 := Aside0.mk ((by rw [hg]; exact Nat.ne_of_gt (blk_lt BK338.out) : gb341 ≠ gb338)); replace BK338 := Aside0.mk (blk_below BK338.out hb); clear hb hbox hg; have hnb13 := NB341_338.out; have hnc13 := NB338_341.out; obtain ⟨hcz14_0, hcz14_1, hcz14_2, hcz14_3, hcz14_4, hfz14_0, hfz14_1, hfz14_2, hfz14_3, hfz14_4⟩ := cs5_ BK341.out))
      (try simp only [Act.put, sx_, sy_, sz_])
      go_cut [39] (fun v39 wc => ∃ (kq : Nat) (x39_9 : Bool), v39 = .bool x39_9 ∧ Aside0 (spec_ArenaOk.j1 kq x3_1 x4_1 x39_9 l0_0 l0_1 ((rd_T77 l0_0 x4_1).f0) bq9 ((rd_T77 l0_0 x4_1).f2.f0) ((rd_T77 l0_0 x4_1).f2.f1) ((rd_T77 l0_0 x4_1).f2.f2) = some r) ∧ Aside0 (kq ≤ k1) ∧ Aside0 (wc.heap[gb338]? = some (.cells #[(.slice (some ad340) l0_0.length c0_0), (.slice A0_1 l0_1.length c0_1)] 27 (0, 0))) ∧ Aside0 (wc.heap[gb341]? = some (.cells #[.int .i64 ((rd_T77 l0_0 x4_1).f0), .bool bq9, .int .i64 ((rd_T77 l0_0 x4_1).f2.f0), .int .i64 ((rd_T77 l0_0 x4_1).f2.f1), .int .i64 ((rd_T77 l0_0 x4_1).f2.f2)] 77 (0, 0))) ∧ Aside0 (Below w.heap.size w wc))
      case first =>
       have H := HC10.out;clear HC10;replace H := bO_ H;obtain ⟨t342, A15, H⟩ := H
       by_cases c16 : t342 = true
       ·subst c16
        rw [if_pos rfl] at H
        by_cases c17 : (bq9 = true)
        ·subst c17
         rw [if_pos rfl] at H;have H' := Aside0.mk H;clear H;have hnb18 := NB341_338.out;have hnc18 := NB338_341.out;obtain ⟨hcz19_0, hcz19_1, hcz19_2, hcz19_3, hcz19_4, hfz19_0, hfz19_1, hfz19_2, hfz19_3, hfz19_4⟩ := cs5_ BK341.out
         go_wp2_with (first | ((with_reducible refine gate_callee (f := 55) rfl ?_); refine goesL_ (some 28) rfl rfl Try.func55 (by kernel_rfl) rfl #[.int .i64 ((rd_T77 l0_0 x4_1).f0), .int .i64 0, .int .i64 5] rfl gl ?_; (with_reducible refine (spec_l1In.calls ((rd_T77 l0_0 x4_1).f0) 0 5 true _ A15.out).mono ?_); rintro e w' ⟨rfl, ⟨nd, rfl⟩⟩; refine ⟨_, rfl, ?_⟩))
         go_meet
         case rel => exact ⟨_, (false), (by first | rfl | (simp; done) | (simp [*]; done)), H', ⟨by have := HK1.out; first | omega | exact Nat.le_refl _⟩, ⟨by (with_reducible repeat (first | refine blk_drewN ?_ _ | refine blk_drew ?_ | refine blk_alloc ?_ _)); refine blk_far ?_ NB338_341.out _; refine blk_far ?_ NB338_341.out _; refine blk_far ?_ NB338_341.out _; refine blk_far ?_ NB338_341.out _; refine blk_far ?_ NB338_341.out _; (with_reducible repeat (first | refine blk_drewN ?_ _ | refine blk_drew ?_ | refine blk_alloc ?_ _)); exact BK338.out⟩, ⟨by (with_reducible repeat (first | refine blk_drewN ?_ _ | refine blk_drew ?_ | refine blk_alloc ?_ _)); refine blk_put (cs := #[.int .i64 ((rd_T77 l0_0 x4_1).f0), .bool true, .int .i64 ((rd_T77 l0_0 x4_1).f2.f0), .int .i64 ((rd_T77 l0_0 x4_1).f2.f1), .int .i64 0]) ?_ 4 _ rfl; refine blk_put (cs := #[.int .i64 ((rd_T77 l0_0 x4_1).f0), .bool true, .int .i64 ((rd_T77 l0_0 x4_1).f2.f0), .int .i64 0, .int .i64 0]) ?_ 3 _ rfl; refine blk_put (cs := #[.int .i64 ((rd_T77 l0_0 x4_1).f0), .bool true, .int .i64 0, .int .i64 0, .int .i64 0]) ?_ 2 _ rfl; refine blk_put (cs := #[.int .i64 ((rd_T77 l0_0 x4_1).f0), .bool false, .int .i64 0, .int .i64 0, .int .i64 0]) ?_ 1 _ rfl; refine blk_put (cs := #[.int .i64 0, .bool false, .int .i64 0, .int .i64 0, .int .i64 0]) ?_ 0 _ rfl; (with_reducible repeat (first | refine blk_drewN ?_ _ | refine blk_drew ?_ | refine blk_alloc ?_ _)); exact BK341.out⟩, ⟨bw2 HB.out GE338.out GE341.out⟩⟩
        ·replace c17 := Bool.eq_false_iff.mpr c17
         subst c17;rw [if_neg (show ¬ (false = true) by decide)] at H;have H' := Aside0.mk H;clear H;have hnb20 := NB341_338.out;have hnc20 := NB338_341.out;obtain ⟨hcz21_0, hcz21_1, hcz21_2, hcz21_3, hcz21_4, hfz21_0, hfz21_1, hfz21_2, hfz21_3, hfz21_4⟩ := cs5_ BK341.out
         go_wp2_with (first | ((with_reducible refine gate_callee (f := 55) rfl ?_); refine goesL_ (some 28) rfl rfl Try.func55 (by kernel_rfl) rfl #[.int .i64 ((rd_T77 l0_0 x4_1).f0), .int .i64 0, .int .i64 5] rfl gl ?_; (with_reducible refine (spec_l1In.calls ((rd_T77 l0_0 x4_1).f0) 0 5 true _ A15.out).mono ?_); rintro e w' ⟨rfl, ⟨nd, rfl⟩⟩; refine ⟨_, rfl, ?_⟩))
         go_meet
         case rel => exact ⟨_, ((((rd_T77 l0_0 x4_1).f0) == 5)), (by first | rfl | (simp; done) | (simp [*]; done)), H', ⟨by have := HK1.out; first | omega | exact Nat.le_refl _⟩, ⟨by (with_reducible repeat (first | refine blk_drewN ?_ _ | refine blk_drew ?_ | refine blk_alloc ?_ _)); refine blk_far ?_ NB338_341.out _; refine blk_far ?_ NB338_341.out _; refine blk_far ?_ NB338_341.out _; refine blk_far ?_ NB338_341.out _; refine blk_far ?_ NB338_341.out _; (with_reducible repeat (first | refine blk_drewN ?_ _ | refine blk_drew ?_ | refine blk_alloc ?_ _)); exact BK338.out⟩, ⟨by (with_reducible repeat (first | refine blk_drewN ?_ _ | refine blk_drew ?_ | refine blk_alloc ?_ _)); refine blk_put (cs := #[.int .i64 ((rd_T77 l0_0 x4_1).f0), .bool false, .int .i64 ((rd_T77 l0_0 x4_1).f2.f0), .int .i64 ((rd_T77 l0_0 x4_1).f2.f1), .int .i64 0]) ?_ 4 _ rfl; refine blk_put (cs := #[.int .i64 ((rd_T77 l0_0 x4_1).f0), .bool false, .int .i64 ((rd_T77 l0_0 x4_1).f2.f0), .int .i64 0, .int .i64 0]) ?_ 3 _ rfl; refine blk_put (cs := #[.int .i64 ((rd_T77 l0_0 x4_1).f0), .bool false, .int .i64 0, .int .i64 0, .int .i64 0]) ?_ 2 _ rfl; refine blk_put (cs := #[.int .i64 ((rd_T77 l0_0 x4_1).f0), .bool false, .int .i64 0, .int .i64 0, .int .i64 0]) ?_ 1 _ rfl; refine blk_put (cs := #[.int .i64 0, .bool false, .int .i64 0, .int .i64 0, .int .i64 0]) ?_ 0 _ rfl; (with_reducible repeat (first | refine blk_drewN ?_ _ | refine blk_drew ?_ | refine blk_alloc ?_ _)); exact BK341.out⟩, ⟨bw2 HB.out GE338.out GE341.out⟩⟩
       ·replace c16 := Bool.eq_false_iff.mpr c16
        subst c16;rw [if_neg (show ¬ (false = true) by decide)] at H;have H' := Aside0.mk H;clear H;have hnb22 := NB341_338.out;have hnc22 := NB338_341.out;obtain ⟨hcz23_0, hcz23_1, hcz23_2, hcz23_3, hcz23_4, hfz23_0, hfz23_1, hfz23_2, hfz23_3, hfz23_4⟩ := cs5_ BK341.out
        go_wp2_with (first | ((with_reducible refine gate_callee (f := 55) rfl ?_); refine goesL_ (some 28) rfl rfl Try.func55 (by kernel_rfl) rfl #[.int .i64 ((rd_T77 l0_0 x4_1).f0), .int .i64 0, .int .i64 5] rfl gl ?_; (with_reducible refine (spec_l1In.calls ((rd_T77 l0_0 x4_1).f0) 0 5 false _ A15.out).mono ?_); rintro e w' ⟨rfl, ⟨nd, rfl⟩⟩; refine ⟨_, rfl, ?_⟩))
        go_meet
        case rel => exact ⟨_, (true), (by first | rfl | (simp; done) | (simp [*]; done)), H', ⟨by have := HK1.out; first | omega | exact Nat.le_refl _⟩, ⟨by (with_reducible repeat (first | refine blk_drewN ?_ _ | refine blk_drew ?_ | refine blk_alloc ?_ _)); refine blk_far ?_ NB338_341.out _; refine blk_far ?_ NB338_341.out _; refine blk_far ?_ NB338_341.out _; refine blk_far ?_ NB338_341.out _; refine blk_far ?_ NB338_341.out _; (with_reducible repeat (first | refine blk_drewN ?_ _ | refine blk_drew ?_ | refine blk_alloc ?_ _)); exact BK338.out⟩, ⟨by (with_reducible repeat (first | refine blk_drewN ?_ _ | refine blk_drew ?_ | refine blk_alloc ?_ _)); refine blk_put (cs := #[.int .i64 ((rd_T77 l0_0 x4_1).f0), .bool bq9, .int .i64 ((rd_T77 l0_0 x4_1).f2.f0), .int .i64 ((rd_T77 l0_0 x4_1).f2.f1), .int .i64 0]) ?_ 4 _ rfl; refine blk_put (cs := #[.int .i64 ((rd_T77 l0_0 x4_1).f0), .bool bq9, .int .i64 ((rd_T77 l0_0 x4_1).f2.f0), .int .i64 0, .int .i64 0]) ?_ 3 _ rfl; refine blk_put (cs := #[.int .i64 ((rd_T77 l0_0 x4_1).f0), .bool bq9, .int .i64 0, .int .i64 0, .int .i64 0]) ?_ 2 _ rfl; refine blk_put (cs := #[.int .i64 ((rd_T77 l0_0 x4_1).f0), .bool false, .int .i64 0, .int .i64 0, .int .i64 0]) ?_ 1 _ rfl; refine blk_put (cs := #[.int .i64 0, .bool false, .int .i64 0, .int .i64 0, .int .i64 0]) ?_ 0 _ rfl; (with_reducible repeat (first | refine blk_drewN ?_ _ | refine blk_drew ?_ | refine blk_alloc ?_ _)); exact BK341.out⟩, ⟨bw2 HB.out GE338.out GE341.out⟩⟩
      case rest =>
       clear HC10;(try clear c1); (try clear c2); (try clear p2); (try clear p3); (try clear q3); (try clear hx3); (try clear c5); (try clear c6); (try clear c7); (try clear c7b0); (try clear c8); (try clear c8b0); (try clear q9); (try clear c13); (try clear c16); (try clear c17); (try clear c18); (try clear c20); (try clear c22); (try clear hcz11_0 hcz11_1); (try clear hcz14_0 hcz14_1 hcz14_2 hcz14_3 hcz14_4); (try clear hcz19_0 hcz19_1 hcz19_2 hcz19_3 hcz19_4); (try clear hcz21_0 hcz21_1 hcz21_2 hcz21_3 hcz21_4); (try clear hcz23_0 hcz23_1 hcz23_2 hcz23_3 hcz23_4); (try clear hcz5_0 hcz5_1); (try clear hfz11_0 hfz11_1); (try clear hfz14_0 hfz14_1 hfz14_2 hfz14_3 hfz14_4); (try clear hfz19_0 hfz19_1 hfz19_2 hfz19_3 hfz19_4); (try clear hfz21_0 hfz21_1 hfz21_2 hfz21_3 hfz21_4); (try clear hfz23_0 hfz23_1 hfz23_2 hfz23_3 hfz23_4); (try clear hfz5_0 hfz5_1); (try clear hx340_0 hx340_1 hx340_2 hx340_3 hx340_4); (try clear p2); (try clear p340); (try clear q340)
       obtain ⟨kq, x39_9, rfl, HA, HJ9, BK338, BK341, HB⟩ := hcut;cases kq with
       | zero => exact absurd HA.out (by simp [spec_ArenaOk.j1])
       | succ kj9 =>
        have H := HA.out;clear HA;simp only [spec_ArenaOk.j1] at H
        by_cases c24 : x39_9 = true
        ·subst c24
         rw [if_pos rfl] at H;obtain rfl := Option.some.inj H;go_wp2
         go_ret
         exact ⟨er, HB.out⟩
        ·replace c24 := Bool.eq_false_iff.mpr c24
         subst c24;rw [if_neg (show ¬ (false = true) by decide)] at H;have H' := Aside0.mk H;clear H;go_wp2
         go_loopg [6] kj9 (fun kq v6 w' => ∃ (x6_3 : Int), v6 = .int .i64 x6_3 ∧ Aside0 (spec_ArenaOk.l1 kq x3_1 x4_1 x6_3 l0_0 l0_1 ((rd_T77 l0_0 x4_1).f0) bq9 ((rd_T77 l0_0 x4_1).f2.f0) ((rd_T77 l0_0 x4_1).f2.f1) ((rd_T77 l0_0 x4_1).f2.f2) = some r) ∧ Aside0 (kq ≤ kj9) ∧ Aside0 (w'.heap[gb338]? = some (.cells #[(.slice (some ad340) l0_0.length c0_0), (.slice A0_1 l0_1.length c0_1)] 27 (0, 0))) ∧ Aside0 (w'.heap[gb341]? = some (.cells #[.int .i64 ((rd_T77 l0_0 x4_1).f0), .bool bq9, .int .i64 ((rd_T77 l0_0 x4_1).f2.f0), .int .i64 ((rd_T77 l0_0 x4_1).f2.f1), .int .i64 ((rd_T77 l0_0 x4_1).f2.f2)] 77 (0, 0))) ∧ Aside0 (Below w.heap.size w w'))
         case atStart => exact ⟨(0), (by first | rfl | (simp; done) | (simp [*]; done)), H', ⟨Nat.le_refl _⟩, ⟨BK338.out⟩, ⟨BK341.out⟩, ⟨HB.out⟩⟩
         case round =>
          clear H';(try clear c1); (try clear c2); (try clear p2); (try clear p3); (try clear q3); (try clear hx3); (try clear c5); (try clear c6); (try clear c7); (try clear c7b0); (try clear c8); (try clear c8b0); (try clear q9); (try clear c13); (try clear c16); (try clear c17); (try clear c18); (try clear c20); (try clear c22); (try clear c24); (try clear hcz11_0 hcz11_1); (try clear hcz14_0 hcz14_1 hcz14_2 hcz14_3 hcz14_4); (try clear hcz19_0 hcz19_1 hcz19_2 hcz19_3 hcz19_4); (try clear hcz21_0 hcz21_1 hcz21_2 hcz21_3 hcz21_4); (try clear hcz23_0 hcz23_1 hcz23_2 hcz23_3 hcz23_4); (try clear hcz5_0 hcz5_1); (try clear hfz11_0 hfz11_1); (try clear hfz14_0 hfz14_1 hfz14_2 hfz14_3 hfz14_4); (try clear hfz19_0 hfz19_1 hfz19_2 hfz19_3 hfz19_4); (try clear hfz21_0 hfz21_1 hfz21_2 hfz21_3 hfz21_4); (try clear hfz23_0 hfz23_1 hfz23_2 hfz23_3 hfz23_4); (try clear hfz5_0 hfz5_1); (try clear hx340_0 hx340_1 hx340_2 hx340_3 hx340_4); (try clear p2); (try clear p3); (try clear p340); (try clear q3); (try clear q340); (try clear q9)
          obtain ⟨x6_3, rfl, HA, HK3, BK338, BK341, HB⟩ := hrel;cases gk with
          | zero => exact absurd HA.out (by simp [spec_ArenaOk.l1])
          | succ k3 =>
           have H := HA.out;clear HA;simp only [spec_ArenaOk.l1] at H
           by_cases c25 : x6_3 < 3
           ·rw [if_pos c25] at H
            have c25b0 : decide (x6_3 < 3) = true := decide_eq_true c25;clear c25
            by_cases c26 : x6_3 = 0
            ·subst c26
             rw [if_pos rfl] at H;replace H := bO_ H;obtain ⟨t343, A27, H⟩ := H;have HC28 := Aside0.mk H;clear H;have hnb29 := NB341_338.out;have hnc29 := NB338_341.out;obtain ⟨hcz30_0, hcz30_1, hcz30_2, hcz30_3, hcz30_4, hfz30_0, hfz30_1, hfz30_2, hfz30_3, hfz30_4⟩ := cs5_ BK341.out
             go_upto_if 49 with (first | ((with_reducible refine gate_callee (f := 93) rfl ?_); refine goesL_ (some 48) rfl rfl Try.func93 (by kernel_rfl) rfl #[.int .i64 ((rd_T77 l0_0 x4_1).f2.f0)] rfl gl ?_; (with_reducible refine (spec_l1Value.calls ((rd_T77 l0_0 x4_1).f2.f0) t343 _ A27.out).mono ?_); rintro e w' ⟨rfl, ⟨nd, rfl⟩⟩; refine ⟨_, rfl, ?_⟩))
             (try simp only [Act.put, sx_, sy_, sz_])
             have H := HC28.out;clear HC28
             by_cases c31 : t343 = true
             ·subst c31
              rw [if_pos rfl] at H;have H' := Aside0.mk H;clear H;go_wp2
              go_roundg k3
              case measure => have := HK1.out; have := HJ9.out; have := HK3.out; omega
              case rel => exact ⟨(wrap64 (0 + 1)), (by first | rfl | (simp; done) | (simp [*]; done) | (simp [wrap64]; done)), H', ⟨by have := HK1.out; have := HJ9.out; have := HK3.out; omega⟩, ⟨bk BK338.out⟩, ⟨bk BK341.out⟩, ⟨bw2 HB.out GE338.out GE341.out⟩⟩
             ·replace c31 := Bool.eq_false_iff.mpr c31
              subst c31;rw [if_neg (show ¬ (false = true) by decide)] at H;obtain rfl := Option.some.inj H;go_wp2
              go_ret
              exact ⟨er, bw2 HB.out GE338.out GE341.out⟩
            ·rw [if_neg c26] at H
             clear c26
             by_cases c32 : x6_3 = 1
             ·subst c32
              rw [if_pos rfl] at H;replace H := bO_ H;obtain ⟨t344, A33, H⟩ := H;have HC34 := Aside0.mk H;clear H;have hnb35 := NB341_338.out;have hnc35 := NB338_341.out;obtain ⟨hcz36_0, hcz36_1, hcz36_2, hcz36_3, hcz36_4, hfz36_0, hfz36_1, hfz36_2, hfz36_3, hfz36_4⟩ := cs5_ BK341.out
              go_upto_if 49 with (first | ((with_reducible refine gate_callee (f := 93) rfl ?_); refine goesL_ (some 48) rfl rfl Try.func93 (by kernel_rfl) rfl #[.int .i64 ((rd_T77 l0_0 x4_1).f2.f1)] rfl gl ?_; (with_reducible refine (spec_l1Value.calls ((rd_T77 l0_0 x4_1).f2.f1) t344 _ A33.out).mono ?_); rintro e w' ⟨rfl, ⟨nd, rfl⟩⟩; refine ⟨_, rfl, ?_⟩))
              (try simp only [Act.put, sx_, sy_, sz_])
              have H := HC34.out;clear HC34
              by_cases c37 : t344 = true
              ·subst c37
               rw [if_pos rfl] at H;have H' := Aside0.mk H;clear H;go_wp2
               go_roundg k3
               case measure => have := HK1.out; have := HJ9.out; have := HK3.out; omega
               case rel => exact ⟨(wrap64 (1 + 1)), (by first | rfl | (simp; done) | (simp [*]; done) | (simp [wrap64]; done)), H', ⟨by have := HK1.out; have := HJ9.out; have := HK3.out; omega⟩, ⟨bk BK338.out⟩, ⟨bk BK341.out⟩, ⟨bw2 HB.out GE338.out GE341.out⟩⟩
              ·replace c37 := Bool.eq_false_iff.mpr c37
               subst c37;rw [if_neg (show ¬ (false = true) by decide)] at H;obtain rfl := Option.some.inj H;go_wp2
               go_ret
               exact ⟨er, bw2 HB.out GE338.out GE341.out⟩
             ·rw [if_neg c32] at H
              clear c32
              by_cases c38 : x6_3 = 2
              ·subst c38
               rw [if_pos rfl] at H;replace H := bO_ H;obtain ⟨t345, A39, H⟩ := H;have HC40 := Aside0.mk H;clear H;have hnb41 := NB341_338.out;have hnc41 := NB338_341.out;obtain ⟨hcz42_0, hcz42_1, hcz42_2, hcz42_3, hcz42_4, hfz42_0, hfz42_1, hfz42_2, hfz42_3, hfz42_4⟩ := cs5_ BK341.out
               go_upto_if 49 with (first | ((with_reducible refine gate_callee (f := 93) rfl ?_); refine goesL_ (some 48) rfl rfl Try.func93 (by kernel_rfl) rfl #[.int .i64 ((rd_T77 l0_0 x4_1).f2.f2)] rfl gl ?_; (with_reducible refine (spec_l1Value.calls ((rd_T77 l0_0 x4_1).f2.f2) t345 _ A39.out).mono ?_); rintro e w' ⟨rfl, ⟨nd, rfl⟩⟩; refine ⟨_, rfl, ?_⟩))
               (try simp only [Act.put, sx_, sy_, sz_])
               have H := HC40.out;clear HC40
               by_cases c43 : t345 = true
               ·subst c43
                rw [if_pos rfl] at H;have H' := Aside0.mk H;clear H;go_wp2
                go_roundg k3
                case measure => have := HK1.out; have := HJ9.out; have := HK3.out; omega
                case rel => exact ⟨(wrap64 (2 + 1)), (by first | rfl | (simp; done) | (simp [*]; done) | (simp [wrap64]; done)), H', ⟨by have := HK1.out; have := HJ9.out; have := HK3.out; omega⟩, ⟨bk BK338.out⟩, ⟨bk BK341.out⟩, ⟨bw2 HB.out GE338.out GE341.out⟩⟩
               ·replace c43 := Bool.eq_false_iff.mpr c43
                subst c43;rw [if_neg (show ¬ (false = true) by decide)] at H;obtain rfl := Option.some.inj H;go_wp2
                go_ret
                exact ⟨er, bw2 HB.out GE338.out GE341.out⟩
              ·rw [if_neg c38] at H
               clear c38;exact absurd H (by simp)
           ·rw [if_neg c25] at H
            have c25b0 : decide (x6_3 < 3) = false := decide_eq_false c25;clear c25
            by_cases c44 : bq9 = true
            ·subst c44
             rw [if_pos rfl] at H
             by_cases c45 : ((rd_T77 l0_0 x4_1).f0) < 5
             ·rw [if_pos c45] at H
              have c45b0 : decide (((rd_T77 l0_0 x4_1).f0) < 5) = true := decide_eq_true c45;clear c45;have H' := Aside0.mk H;clear H;have hnb46 := NB341_338.out;have hnc46 := NB338_341.out;obtain ⟨hcz47_0, hcz47_1, hcz47_2, hcz47_3, hcz47_4, hfz47_0, hfz47_1, hfz47_2, hfz47_3, hfz47_4⟩ := cs5_ BK341.out;go_wp2
              go_roundg k3
              case measure => have := HK1.out; have := HJ9.out; have := HK3.out; omega
              case rel => exact ⟨(wrap64 (x3_1 + 1)), (wrap64 (x4_1 + 1)), (by first | rfl | (simp; done) | (simp [*]; done)), (by first | rfl | (simp; done) | (simp [*]; done)), H', ⟨by have := HK1.out; have := HJ9.out; have := HK3.out; omega⟩, ⟨BK338.out⟩, ⟨HB.out⟩⟩
             ·rw [if_neg c45] at H
              have c45b0 : decide (((rd_T77 l0_0 x4_1).f0) < 5) = false := decide_eq_false c45;clear c45;have H' := Aside0.mk H;clear H;have hnb48 := NB341_338.out;have hnc48 := NB338_341.out;obtain ⟨hcz49_0, hcz49_1, hcz49_2, hcz49_3, hcz49_4, hfz49_0, hfz49_1, hfz49_2, hfz49_3, hfz49_4⟩ := cs5_ BK341.out;go_wp2
              go_roundg k3
              case measure => have := HK1.out; have := HJ9.out; have := HK3.out; omega
              case rel => exact ⟨(x3_1), (wrap64 (x4_1 + 1)), (by first | rfl | (simp; done) | (simp [*]; done)), (by first | rfl | (simp; done) | (simp [*]; done)), H', ⟨by have := HK1.out; have := HJ9.out; have := HK3.out; omega⟩, ⟨BK338.out⟩, ⟨HB.out⟩⟩
            ·replace c44 := Bool.eq_false_iff.mpr c44
             subst c44;rw [if_neg (show ¬ (false = true) by decide)] at H;have H' := Aside0.mk H;clear H;have hnb50 := NB341_338.out;have hnc50 := NB338_341.out;obtain ⟨hcz51_0, hcz51_1, hcz51_2, hcz51_3, hcz51_4, hfz51_0, hfz51_1, hfz51_2, hfz51_3, hfz51_4⟩ := cs5_ BK341.out;go_wp2
             go_roundg k3
             case measure => have := HK1.out; have := HJ9.out; have := HK3.out; omega
             case rel => exact ⟨(x3_1), (wrap64 (x4_1 + 1)), (by first | rfl | (simp; done) | (simp [*]; done)), (by first | rfl | (simp; done) | (simp [*]; done)), H', ⟨by have := HK1.out; have := HJ9.out; have := HK3.out; omega⟩, ⟨BK338.out⟩, ⟨HB.out⟩⟩
     ·rw [if_neg c8] at H
      exact absurd H (by simp)
    ·rw [if_neg c7] at H
     have c7b0 : decide (x4_1 < (l0_0.length : Int)) = false := decide_eq_false c7;clear c7;(first | rw [c7b0] | (simp only [i64_w, i32_w]; rw [c7b0]) | skip)
     have H' := Aside0.mk H;clear H;obtain ⟨hcz52_0, hcz52_1, hfz52_0, hfz52_1⟩ := cs2_ BK338.out;go_wp2
     go_loopg [7] k1 (fun kq v7 w' => ∃ (x7_2 : Int), v7 = .int .i64 x7_2 ∧ Aside0 (spec_ArenaOk.l2 kq x3_1 x7_2 l0_0 l0_1 = some r) ∧ Aside0 (kq ≤ k1) ∧ Aside0 (w'.heap[gb338]? = some (.cells #[(.slice A0_0 l0_0.length c0_0), (.slice A0_1 l0_1.length c0_1)] 27 (0, 0))) ∧ Aside0 (Below w.heap.size w w'))
     case atStart => exact ⟨(0), (by first | rfl | (simp; done) | (simp [*]; done)), H', ⟨Nat.le_refl _⟩, ⟨BK338.out⟩, ⟨HB.out⟩⟩
     case round =>
      clear H';(try clear c1); (try clear c2); (try clear p2); (try clear c3); (try clear p3); (try clear q3); (try clear hx3); (try clear c4); (try clear c5); (try clear c6); (try clear p6); (try clear c7); (try clear c7b0); (try clear c8); (try clear c8b0); (try clear c9); (try clear q9); (try clear c13); (try clear c16); (try clear c17); (try clear c18); (try clear c20); (try clear c22); (try clear c24); (try clear c25); (try clear c25b0); (try clear c26); (try clear c29); (try clear c31); (try clear c32); (try clear p34); (try clear q34); (try clear hx34); (try clear c35); (try clear c37); (try clear c38); (try clear c41); (try clear c43); (try clear c44); (try clear c45); (try clear c45b0); (try clear c46); (try clear c48); (try clear c50); (try clear hcz11_0 hcz11_1); (try clear hcz14_0 hcz14_1 hcz14_2 hcz14_3 hcz14_4); (try clear hcz19_0 hcz19_1 hcz19_2 hcz19_3 hcz19_4); (try clear hcz21_0 hcz21_1 hcz21_2 hcz21_3 hcz21_4); (try clear hcz23_0 hcz23_1 hcz23_2 hcz23_3 hcz23_4); (try clear hcz30_0 hcz30_1 hcz30_2 hcz30_3 hcz30_4); (try clear hcz36_0 hcz36_1 hcz36_2 hcz36_3 hcz36_4); (try clear hcz42_0 hcz42_1 hcz42_2 hcz42_3 hcz42_4); (try clear hcz47_0 hcz47_1 hcz47_2 hcz47_3 hcz47_4); (try clear hcz49_0 hcz49_1 hcz49_2 hcz49_3 hcz49_4); (try clear hcz51_0 hcz51_1 hcz51_2 hcz51_3 hcz51_4); (try clear hcz52_0 hcz52_1); (try clear hcz5_0 hcz5_1); (try clear hfz11_0 hfz11_1); (try clear hfz14_0 hfz14_1 hfz14_2 hfz14_3 hfz14_4); (try clear hfz19_0 hfz19_1 hfz19_2 hfz19_3 hfz19_4); (try clear hfz21_0 hfz21_1 hfz21_2 hfz21_3 hfz21_4); (try clear hfz23_0 hfz23_1 hfz23_2 hfz23_3 hfz23_4); (try clear hfz30_0 hfz30_1 hfz30_2 hfz30_3 hfz30_4); (try clear hfz36_0 hfz36_1 hfz36_2 hfz36_3 hfz36_4); (try clear hfz42_0 hfz42_1 hfz42_2 hfz42_3 hfz42_4); (try clear hfz47_0 hfz47_1 hfz47_2 hfz47_3 hfz47_4); (try clear hfz49_0 hfz49_1 hfz49_2 hfz49_3 hfz49_4); (try clear hfz51_0 hfz51_1 hfz51_2 hfz51_3 hfz51_4); (try clear hfz52_0 hfz52_1); (try clear hfz5_0 hfz5_1); (try clear hx340_0 hx340_1 hx340_2 hx340_3 hx340_4); (try clear p2); (try clear p3); (try clear p340); (try clear q3); (try clear q340); (try clear q9)
      obtain ⟨x7_2, rfl, HA, HK2, BK338, HB⟩ := hrel;cases gk with
      | zero => exact absurd HA.out (by simp [spec_ArenaOk.l2])
      | succ k2 =>
       have H := HA.out;clear HA;simp only [spec_ArenaOk.l2] at H
       by_cases c53 : x7_2 < (l0_1.length : Int)
       ·rw [if_pos c53] at H
        have c53b0 : decide (x7_2 < (l0_1.length : Int)) = true := decide_eq_true c53;clear c53
        by_cases c54 : 0 ≤ x7_2
        ·rw [if_pos c54] at H
         have c54b0 : decide (0 ≤ x7_2) = true := decide_eq_true c54;clear c54;replace H := bO_ H;obtain ⟨t347, A55, H⟩ := H
         by_cases c56 : t347 = true
         ·subst c56
          rw [if_pos rfl] at H
          by_cases c57 : 0 ≤ (rd l0_1 x7_2)
          ·rw [if_pos c57] at H
           have c57b0 : decide (0 ≤ (rd l0_1 x7_2)) = true := decide_eq_true c57;clear c57
           by_cases c58 : (rd l0_1 x7_2) < (l0_0.length : Int)
           ·rw [if_pos c58] at H
            have c58b0 : decide ((rd l0_1 x7_2) < (l0_0.length : Int)) = true := decide_eq_true c58;clear c58;obtain ⟨bq59, hbq59⟩ : ∃ b_ : Bool, b_ = ((rd_T77 l0_0 (rd l0_1 x7_2)).f1) := ⟨_, rfl⟩;rw [← hbq59] at H;have Nbq59 := Aside0.mk hbq59;clear hbq59
            by_cases c60 : (bq59 = true)
            ·subst c60
             rw [if_pos rfl] at H
             by_cases c61 : ((rd_T77 l0_0 (rd l0_1 x7_2)).f0) = 5
             ·rw [if_pos c61] at H
              have c61b0 : (((rd_T77 l0_0 (rd l0_1 x7_2)).f0) == 5) = true := beq_iff_eq.mpr c61;have c61b1 : (((rd_T77 l0_0 (rd l0_1 x7_2)).f0) != 5) = false := bne_eq_false_iff_eq.mpr c61;clear c61;obtain rfl := Option.some.inj H;obtain ⟨hcz62_0, hcz62_1, hfz62_0, hfz62_1⟩ := cs2_ BK338.out;have p346 : 0 ≤ (x7_2 : Int) := oa;have q346 : x7_2 < (l0_1.length : Int) := oa;obtain ⟨ad346, e346, hx346_0⟩ := Kd.at_int HR0_1.out x7_2 p346 q346;cases e346;replace hx346_0 := (HB.out.cell (World.block_lt_of_cell? w _ hx346_0)).trans hx346_0;replace p346 := eq_true p346;replace q346 := eq_true q346
              go_wp2_with (first | ((with_reducible refine gate_callee (f := 55) rfl ?_); refine goesL_ (some 76) rfl rfl Try.func55 (by kernel_rfl) rfl #[.int .i64 (rd l0_1 x7_2), .int .i64 0, .int .i64 (wrap64 ((l0_0.length : Int) - 1))] rfl gl ?_; (with_reducible refine (spec_l1In.calls (rd l0_1 x7_2) 0 (wrap64 ((l0_0.length : Int) - 1)) true _ A55.out).mono ?_); rintro e w' ⟨rfl, ⟨nd, rfl⟩⟩; refine ⟨_, rfl, ?_⟩; have p348 : 0 ≤ ((rd l0_1 x7_2) : Int) := oa; have q348 : (rd l0_1 x7_2) < (l0_0.length : Int) := oa; obtain ⟨ad348, e348, hx348_0, hx348_1, hx348_2, hx348_3, hx348_4⟩ := at_T77 HR0_0.out (rd l0_1 x7_2) p348 q348; (try rw [← Nbq59.out] at hx348_1); cases e348; replace hx348_0 := (HB.out.cell (World.block_lt_of_cell? w _ hx348_0)).trans hx348_0; replace hx348_1 := (HB.out.cell (World.block_lt_of_cell? w _ hx348_1)).trans hx348_1; replace hx348_2 := (HB.out.cell (World.block_lt_of_cell? w _ hx348_2)).trans hx348_2; replace hx348_3 := (HB.out.cell (World.block_lt_of_cell? w _ hx348_3)).trans hx348_3; replace hx348_4 := (HB.out.cell (World.block_lt_of_cell? w _ hx348_4)).trans hx348_4; replace p348 := eq_true p348; replace q348 := eq_true q348; have p349 : 0 ≤ ((rd l0_1 x7_2) : Int) := oa; have q349 : (rd l0_1 x7_2) < (l0_0.length : Int) := oa; obtain ⟨ad349, e349, hx349_0, hx349_1, hx349_2, hx349_3, hx349_4⟩ := at_T77 HR0_0.out (rd l0_1 x7_2) p349 q349; (try rw [← Nbq59.out] at hx349_1); obtain rfl : ad348 = ad349 := (by injection e349); replace hx349_0 := (HB.out.cell (World.block_lt_of_cell? w _ hx349_0)).trans hx349_0; replace hx349_1 := (HB.out.cell (World.block_lt_of_cell? w _ hx349_1)).trans hx349_1; replace hx349_2 := (HB.out.cell (World.block_lt_of_cell? w _ hx349_2)).trans hx349_2; replace hx349_3 := (HB.out.cell (World.block_lt_of_cell? w _ hx349_3)).trans hx349_3; replace hx349_4 := (HB.out.cell (World.block_lt_of_cell? w _ hx349_4)).trans hx349_4; replace p349 := eq_true p349; replace q349 := eq_true q349))
              go_ret
              exact ⟨er, bw1 HB.out GE338.out⟩
             ·rw [if_neg c61] at H
              have c61b0 : (((rd_T77 l0_0 (rd l0_1 x7_2)).f0) == 5) = false := beq_eq_false_iff_ne.mpr c61;have c61b1 : (((rd_T77 l0_0 (rd l0_1 x7_2)).f0) != 5) = true := bne_iff_ne.mpr c61;have c63b0 := eq_true (oa : 0 ≤ x7_2)
              by_cases c64 : x7_2 ≤ (l0_1.length : Int)
              ·rw [if_pos c64] at H
               have c64b0 := eq_true c64;have c64b1 : decide (x7_2 ≤ (l0_1.length : Int)) = true := decide_eq_true c64;clear c64;replace H := bO_ H;obtain ⟨t351, A65, H⟩ := H;have HC66 := Aside0.mk H;clear H;obtain ⟨hcz67_0, hcz67_1, hfz67_0, hfz67_1⟩ := cs2_ BK338.out;have p346 : 0 ≤ (x7_2 : Int) := oa;have q346 : x7_2 < (l0_1.length : Int) := oa;obtain ⟨ad346, e346, hx346_0⟩ := Kd.at_int HR0_1.out x7_2 p346 q346;cases e346;replace hx346_0 := (HB.out.cell (World.block_lt_of_cell? w _ hx346_0)).trans hx346_0;replace p346 := eq_true p346;replace q346 := eq_true q346
               go_upto_if 103 with (first | ((with_reducible refine gate_callee (f := 55) rfl ?_); refine goesL_ (some 76) rfl rfl Try.func55 (by kernel_rfl) rfl #[.int .i64 (rd l0_1 x7_2), .int .i64 0, .int .i64 (wrap64 ((l0_0.length : Int) - 1))] rfl gl ?_; (with_reducible refine (spec_l1In.calls (rd l0_1 x7_2) 0 (wrap64 ((l0_0.length : Int) - 1)) true _ A55.out).mono ?_); rintro e w' ⟨rfl, ⟨nd, rfl⟩⟩; refine ⟨_, rfl, ?_⟩; have p348 : 0 ≤ ((rd l0_1 x7_2) : Int) := oa; have q348 : (rd l0_1 x7_2) < (l0_0.length : Int) := oa; obtain ⟨ad348, e348, hx348_0, hx348_1, hx348_2, hx348_3, hx348_4⟩ := at_T77 HR0_0.out (rd l0_1 x7_2) p348 q348; (try rw [← Nbq59.out] at hx348_1); cases e348; replace hx348_0 := (HB.out.cell (World.block_lt_of_cell? w _ hx348_0)).trans hx348_0; replace hx348_1 := (HB.out.cell (World.block_lt_of_cell? w _ hx348_1)).trans hx348_1; replace hx348_2 := (HB.out.cell (World.block_lt_of_cell? w _ hx348_2)).trans hx348_2; replace hx348_3 := (HB.out.cell (World.block_lt_of_cell? w _ hx348_3)).trans hx348_3; replace hx348_4 := (HB.out.cell (World.block_lt_of_cell? w _ hx348_4)).trans hx348_4; replace p348 := eq_true p348; replace q348 := eq_true q348; have p349 : 0 ≤ ((rd l0_1 x7_2) : Int) := oa; have q349 : (rd l0_1 x7_2) < (l0_0.length : Int) := oa; obtain ⟨ad349, e349, hx349_0, hx349_1, hx349_2, hx349_3, hx349_4⟩ := at_T77 HR0_0.out (rd l0_1 x7_2) p349 q349; (try rw [← Nbq59.out] at hx349_1); obtain rfl : ad348 = ad349 := (by injection e349); replace hx349_0 := (HB.out.cell (World.block_lt_of_cell? w _ hx349_0)).trans hx349_0; replace hx349_1 := (HB.out.cell (World.block_lt_of_cell? w _ hx349_1)).trans hx349_1; replace hx349_2 := (HB.out.cell (World.block_lt_of_cell? w _ hx349_2)).trans hx349_2; replace hx349_3 := (HB.out.cell (World.block_lt_of_cell? w _ hx349_3)).trans hx349_3; replace hx349_4 := (HB.out.cell (World.block_lt_of_cell? w _ hx349_4)).trans hx349_4; replace p349 := eq_true p349; replace q349 := eq_true q349; obtain ⟨i068, hi068, _, hsz68, _⟩ := info_parts info3; obtain ⟨hcut68, hA68, hC68⟩ := print_take_of (P := Try.prog) (Value.int .i64) 0 25 3 .i64 Try.underlying25 hi068 hsz68 (some ad346) c0_1 l0_1 x7_2 (oa) (oa) HC0_1.out; have HR350 := Aside0.mk (Kd.C_of_reads (h1 := fun _ => rfl) (hA68 _ (Kd.reads_of_C HR0_1.out))); have HC350 := Aside0.mk hC68; clear hA68 hC68 hi068 hsz68) | (go_at_call 75; (first | (refine calls_of_args (args' := #[.slice (some ad346) (l0_1.take (x7_2 : Int).toNat).length c0_1, .int .i64 (rd l0_1 x7_2)]) (by first | (rw [show (l0_1.take (x7_2 : Int).toNat).length = x7_2.toNat from (by rw [List.length_take]; have h_ : (x7_2 : Int) ≤ (l0_1.length : Int) := oa; omega)] <;> rfl) | rfl) ?_) | skip); (with_reducible refine (spec_l1Has.calls k2 _ _ (l0_1.take (x7_2 : Int).toNat) (rd l0_1 x7_2) t351 _ ?side1 ?side2 A65.out).mono ?_); (case side1 => exact ck (Kd.C_below HR350.out (bw1 HB.out GE338.out))); (case side2 => exact HC350.out); rintro e w' ⟨rfl, ⟨nd, rfl⟩⟩))
               (try simp only [Act.put, sx_, sy_, sz_])
               have H := HC66.out;clear HC66
               by_cases c69 : t351 = true
               ·subst c69
                rw [if_pos rfl] at H;obtain rfl := Option.some.inj H;go_wp2
                go_ret
                exact ⟨er, bw1 HB.out GE338.out⟩
               ·replace c69 := Bool.eq_false_iff.mpr c69
                subst c69;rw [if_neg (show ¬ (false = true) by decide)] at H;have H' := Aside0.mk H;clear H;go_wp2
                go_roundg k2
                case measure => have := HK1.out; have := HK2.out; omega
                case rel => exact ⟨(wrap64 (x7_2 + 1)), (by first | rfl | (simp; done) | (simp [*]; done)), H', ⟨by have := HK1.out; have := HK2.out; omega⟩, ⟨BK338.out⟩, ⟨bw1 HB.out GE338.out⟩⟩
              ·rw [if_neg c64] at H
               exact absurd H (by simp)
            ·replace c60 := Bool.eq_false_iff.mpr c60
             subst c60;rw [if_neg (show ¬ (false = true) by decide)] at H;obtain rfl := Option.some.inj H;obtain ⟨hcz70_0, hcz70_1, hfz70_0, hfz70_1⟩ := cs2_ BK338.out;have p346 : 0 ≤ (x7_2 : Int) := oa;have q346 : x7_2 < (l0_1.length : Int) := oa;obtain ⟨ad346, e346, hx346_0⟩ := Kd.at_int HR0_1.out x7_2 p346 q346;cases e346;replace hx346_0 := (HB.out.cell (World.block_lt_of_cell? w _ hx346_0)).trans hx346_0;replace p346 := eq_true p346;replace q346 := eq_true q346
             go_wp2_with (first | ((with_reducible refine gate_callee (f := 55) rfl ?_); refine goesL_ (some 76) rfl rfl Try.func55 (by kernel_rfl) rfl #[.int .i64 (rd l0_1 x7_2), .int .i64 0, .int .i64 (wrap64 ((l0_0.length : Int) - 1))] rfl gl ?_; (with_reducible refine (spec_l1In.calls (rd l0_1 x7_2) 0 (wrap64 ((l0_0.length : Int) - 1)) true _ A55.out).mono ?_); rintro e w' ⟨rfl, ⟨nd, rfl⟩⟩; refine ⟨_, rfl, ?_⟩; have p348 : 0 ≤ ((rd l0_1 x7_2) : Int) := oa; have q348 : (rd l0_1 x7_2) < (l0_0.length : Int) := oa; obtain ⟨ad348, e348, hx348_0, hx348_1, hx348_2, hx348_3, hx348_4⟩ := at_T77 HR0_0.out (rd l0_1 x7_2) p348 q348; (try rw [← Nbq59.out] at hx348_1); cases e348; replace hx348_0 := (HB.out.cell (World.block_lt_of_cell? w _ hx348_0)).trans hx348_0; replace hx348_1 := (HB.out.cell (World.block_lt_of_cell? w _ hx348_1)).trans hx348_1; replace hx348_2 := (HB.out.cell (World.block_lt_of_cell? w _ hx348_2)).trans hx348_2; replace hx348_3 := (HB.out.cell (World.block_lt_of_cell? w _ hx348_3)).trans hx348_3; replace hx348_4 := (HB.out.cell (World.block_lt_of_cell? w _ hx348_4)).trans hx348_4; replace p348 := eq_true p348; replace q348 := eq_true q348))
             go_ret
             exact ⟨er, bw1 HB.out GE338.out⟩
           ·rw [if_neg c58] at H
            exact absurd H (by simp)
          ·rw [if_neg c57] at H
           exact absurd H (by simp)
         ·replace c56 := Bool.eq_false_iff.mpr c56
          subst c56;rw [if_neg (show ¬ (false = true) by decide)] at H;obtain rfl := Option.some.inj H;obtain ⟨hcz71_0, hcz71_1, hfz71_0, hfz71_1⟩ := cs2_ BK338.out;have p346 : 0 ≤ (x7_2 : Int) := oa;have q346 : x7_2 < (l0_1.length : Int) := oa;obtain ⟨ad346, e346, hx346_0⟩ := Kd.at_int HR0_1.out x7_2 p346 q346;cases e346;replace hx346_0 := (HB.out.cell (World.block_lt_of_cell? w _ hx346_0)).trans hx346_0;replace p346 := eq_true p346;replace q346 := eq_true q346
          go_wp2_with (first | ((with_reducible refine gate_callee (f := 55) rfl ?_); refine goesL_ (some 76) rfl rfl Try.func55 (by kernel_rfl) rfl #[.int .i64 (rd l0_1 x7_2), .int .i64 0, .int .i64 (wrap64 ((l0_0.length : Int) - 1))] rfl gl ?_; (with_reducible refine (spec_l1In.calls (rd l0_1 x7_2) 0 (wrap64 ((l0_0.length : Int) - 1)) false _ A55.out).mono ?_); rintro e w' ⟨rfl, ⟨nd, rfl⟩⟩; refine ⟨_, rfl, ?_⟩))
          go_ret
          exact ⟨er, bw1 HB.out GE338.out⟩
        ·rw [if_neg c54] at H
         exact absurd H (by simp)
       ·rw [if_neg c53] at H
        have c53b0 : decide (x7_2 < (l0_1.length : Int)) = false := decide_eq_false c53;clear c53;obtain rfl := Option.some.inj H;obtain ⟨hcz72_0, hcz72_1, hfz72_0, hfz72_1⟩ := cs2_ BK338.out;go_wp2
        go_ret
        exact ⟨er, bw1 HB.out GE338.out⟩
 ·replace c6 := Bool.eq_false_iff.mpr c6
  subst c6;rw [if_neg (show ¬ (false = true) by decide)] at H;obtain rfl := Option.some.inj H;go_wp2
  go_ret
  exact ⟨er, bw1 HB.out GE338.out⟩


end Go.Proofs.Ytemdjfiimgjiaaa.S
namespace Go.Proofs.Ytemdjfiimgjiaaa.S
open Go.Proofs.Ytemdjfiimgjiaaa.Sq
open Go.RowKit Go.Proofs.YtemdjfiimgjiaaaW.PrintWords Go.Proofs.YtemdjfiimgjiaaaW.PrintLast Go.Proofs.YtemdjfiimgjiaaaW.PrintMore
attribute [local go_sem] max2_int min2_int max_two min_two max_three min_three max_four min_four   -- for this text's walks alone
set_option linter.unusedVariables false
set_option linter.unusedSimpArgs false

def spec_l1All.l0 : Nat → List Int → Int → Int → Int → Option (Bool)
 | 0, _, _, _, _ => none
 | k + 1, x0, x1, x2, x7 => if x7 < (x0.length : Int) then (if 0 ≤ x7 then ((spec_l1In.f (rd x0 x7) x1 x2).bind fun t382 => (if t382 = true then (spec_l1All.l0 k x0 x1 x2 (wrap64 (x7 + 1))) else (some false))) else (none)) else (some true)
def spec_l1All.f (k : Nat) (l0 : List Int) (a1 : Int) (a2 : Int) : Option (Bool) := spec_l1All.l0 k l0 a1 a2 0
set_option maxHeartbeats 8000000 in
set_option maxRecDepth 100000 in
theorem spec_l1All.calls (k : Nat) (A0 : Option Addr) (c0 : Nat) (l0 : List Int) (a1 : Int) (a2 : Int) (r : Bool) (w : World) (hr0 : Kd.C (Kd.int .i64) w A0 l0.length l0) (hc0 : l0.length ≤ c0) (h : spec_l1All.f k l0 a1 a2 = some r) :
  Calls Try.prog 69 #[.slice A0 l0.length c0, .int .i64 a1, .int .i64 a2] w fun e w' => e = .returned (.bool r) ∧ Drawn0 w w' := by
 have HR0 := Aside0.mk hr0;have HC0 := Aside0.mk hc0;clear hr0 hc0;have H : (spec_l1All.l0 k l0 a1 a2 0) = some r := h;clear h;have H' := Aside0.mk H;clear H
 go_enter Try.func69, Try.ntmps69
 go_wp2
 go_loopg [7] k (fun kq v7 w' => ∃ (x7_1 : Int), v7 = .int .i64 x7_1 ∧ Aside0 (spec_l1All.l0 kq l0 a1 a2 x7_1 = some r) ∧ Aside0 (kq ≤ k) ∧ Drawn0 w w')
 case atStart => exact ⟨(0), (by first | rfl | (simp; done) | (simp [*]; done)), H', ⟨Nat.le_refl _⟩, by repeat (first | exact Drawn0.refl _ | apply Drawn0.step)⟩
 case round =>
  clear H'
  try clear p2
  obtain ⟨x7_1, rfl, HA, HK1, ⟨m1, rfl⟩⟩ := hrel;cases gk with
  | zero => exact absurd HA.out (by simp [spec_l1All.l0])
  | succ k1 =>
   have H := HA.out;clear HA;simp only [spec_l1All.l0] at H
   by_cases c4 : x7_1 < (l0.length : Int)
   ·rw [if_pos c4] at H
    have c4b0 : decide (x7_1 < (l0.length : Int)) = true := decide_eq_true c4;clear c4
    by_cases c5 : 0 ≤ x7_1
    ·rw [if_pos c5] at H
     have c5b0 : decide (0 ≤ x7_1) = true := decide_eq_true c5;clear c5;replace H := bO_ H;obtain ⟨t353, A6, H⟩ := H;have HC7 := Aside0.mk H;clear H;have p352 : 0 ≤ (x7_1 : Int) := oa;have q352 : x7_1 < (l0.length : Int) := oa;obtain ⟨ad352, e352, hx352_0⟩ := Kd.at_int HR0.out x7_1 p352 q352;cases e352;replace p352 := eq_true p352;replace q352 := eq_true q352
     go_upto_if 21 with (first | ((with_reducible refine gate_callee (f := 55) rfl ?_); refine goesL_ (some 20) rfl rfl Try.func55 (by kernel_rfl) rfl #[.int .i64 (rd l0 x7_1), .int .i64 a1, .int .i64 a2] rfl gl ?_; (with_reducible refine (spec_l1In.calls (rd l0 x7_1) a1 a2 t353 _ A6.out).mono ?_); rintro e w' ⟨rfl, ⟨nd, rfl⟩⟩; refine ⟨_, rfl, ?_⟩))
     (try simp only [Act.put, sx_, sy_, sz_])
     have H := HC7.out;clear HC7
     by_cases c8 : t353 = true
     ·subst c8
      rw [if_pos rfl] at H;have H' := Aside0.mk H;clear H;go_wp2
      go_roundg k1
      case measure => have := HK1.out; omega
      case rel => exact ⟨(wrap64 (x7_1 + 1)), (by first | rfl | (simp; done) | (simp [*]; done)), H', ⟨by have := HK1.out; omega⟩, by repeat (first | exact Drawn0.refl _ | apply Drawn0.step)⟩
     ·replace c8 := Bool.eq_false_iff.mpr c8
      subst c8;rw [if_neg (show ¬ (false = true) by decide)] at H;obtain rfl := Option.some.inj H;go_wp2
      go_ret
      exact ⟨by first | rfl | (simp; done) | (simp [*]; done), by repeat (first | exact Drawn0.refl _ | apply Drawn0.step)⟩
    ·rw [if_neg c5] at H
     exact absurd H (by simp)
   ·rw [if_neg c4] at H
    have c4b0 : decide (x7_1 < (l0.length : Int)) = false := decide_eq_false c4;clear c4;obtain rfl := Option.some.inj H;go_wp2
    go_ret
    exact ⟨by first | rfl | (simp; done) | (simp [*]; done), by repeat (first | exact Drawn0.refl _ | apply Drawn0.step)⟩

def spec_Live.f (k : Nat) (l0_0 : List (S77)) (l0_1 : List Int) (a1 : Int) : Option (Bool) := (spec_ArenaOk.f k l0_0 l0_1).bind fun t384 => (if t384 = true then ((spec_l1In.f a1 0 (wrap64 ((wrap64 (8 * (l0_0.length : Int))) - 1))).bind fun t385 => (if t385 = true then (if 0 ≤ (wrap64 (Int.tdiv a1 8)) then (if (wrap64 (Int.tdiv a1 8)) < (l0_0.length : Int) then (if ((rd_T77 l0_0 (wrap64 (Int.tdiv a1 8))).f1 = true) then (some false) else (some (((rd_T77 l0_0 (wrap64 (Int.tdiv a1 8))).f0) == (Int.tmod a1 8)))) else (none)) else (none)) else (some false))) else (some false))
set_option maxHeartbeats 8000000 in
set_option maxRecDepth 100000 in
theorem spec_Live.calls (k : Nat) (A0_0 : Option Addr) (c0_0 : Nat) (l0_0 : List (S77)) (A0_1 : Option Addr) (c0_1 : Nat) (l0_1 : List Int) (a1 : Int) (r : Bool) (w : World) (hr0_0 : Kd.C k77 w A0_0 l0_0.length l0_0) (hc0_0 : l0_0.length ≤ c0_0) (hr0_1 : Kd.C (Kd.int .i64) w A0_1 l0_1.length l0_1) (hc0_1 : l0_1.length ≤ c0_1) (h : spec_Live.f k l0_0 l0_1 a1 = some r) :
  Calls Try.prog 70 #[.agg #[.slice A0_0 l0_0.length c0_0, .slice A0_1 l0_1.length c0_1], .int .i64 a1] w fun e w' => e = .returned (.bool r) ∧ Below w.heap.size w w' := by
 have hu27 := Try.underlying27;have hu77 := Try.underlying77;have HR0_0 := Aside0.mk hr0_0;have HC0_0 := Aside0.mk hc0_0;clear hr0_0 hc0_0;have HR0_1 := Aside0.mk hr0_1;have HC0_1 := Aside0.mk hc0_1;clear hr0_1 hc0_1;have HB := Aside0.mk (Below.refl w.heap.size w);have H : ((spec_ArenaOk.f k l0_0 l0_1).bind fun t355 => (if t355 = true then ((spec_l1In.f a1 0 (wrap64 ((wrap64 (8 * (l0_0.length : Int))) - 1))).bind fun t356 => (if t356 = true then (if 0 ≤ (wrap64 (Int.tdiv a1 8)) then (if (wrap64 (Int.tdiv a1 8)) < (l0_0.length : Int) then (if ((rd_T77 l0_0 (wrap64 (Int.tdiv a1 8))).f1 = true) then (some false) else (some (((rd_T77 l0_0 (wrap64 (Int.tdiv a1 8))).f0) == (Int.tmod a1 8)))) else (none)) else (none)) else (some false))) else (some false))) = some r := h;clear h;replace H := bO_ H;obtain ⟨t355, A3, H⟩ := H
 by_cases c4 : t355 = true
 ·subst c4
  rw [if_pos rfl] at H;replace H := bO_ H;obtain ⟨t356, A5, H⟩ := H;have HC6 := Aside0.mk H;clear H
  go_enter Try.func70, Try.ntmps70
  go_upto_if 18 with (first | ((with_reducible refine gate_dst (N := 2) rfl ?_); (try (refine gate_guard (by rfl) ?_; dsimp only)); refine box_event ?hg (N := 2) ?hd (cs := #[.slice A0_0 l0_0.length c0_0, .slice A0_1 l0_1.length c0_1]) (t := 27) ?hr ?_; (case hd => rfl); (case hg => rfl); (case hr => first | (go_simp; done) | (go_simp; rfl)); intro gb354 hg w7 hbox hb; have qB_ := bS_ (bw HB.out) hb; replace HB := Aside0.mk (qB_.2); have BK354 := Aside0.mk (hbox); have GW354 := Aside0.mk ((by rw [hg]; exact qB_.1 : w.heap.size ≤ gb354)); have GE354 := GW354; clear qB_; clear hb hbox hg; obtain ⟨hcz8_0, hcz8_1, hfz8_0, hfz8_1⟩ := cs2_ BK354.out) | ((with_reducible refine gate_callee (f := 68) rfl ?_); refine goesL_ (some 7) rfl rfl Try.func68 (by kernel_rfl) rfl #[.agg #[.slice A0_0 l0_0.length c0_0, .slice A0_1 l0_1.length c0_1]] rfl gl ?_; (with_reducible refine (spec_ArenaOk.calls k _ _ l0_0 _ _ l0_1 true _ ?side1 ?side2 ?side3 ?side4 A3.out).mono ?_); (case side1 => exact ck (Kd.C_below HR0_0.out HB.out)); (case side2 => exact HC0_0.out); (case side3 => exact ck (Kd.C_below HR0_1.out HB.out)); (case side4 => exact HC0_1.out); rintro e w9 ⟨rfl, hb⟩; refine ⟨_, rfl, ?_⟩; replace BK354 := Aside0.mk (bB BK354.out hb); replace HB := Aside0.mk (below_step (bw1 HB.out GE354.out) hb); clear hb; obtain ⟨hcz10_0, hcz10_1, hfz10_0, hfz10_1⟩ := cs2_ BK354.out) | (go_at_call 55; (with_reducible refine (spec_l1In.calls a1 0 (wrap64 ((wrap64 (8 * (l0_0.length : Int))) - 1)) t356 _ A5.out).mono ?_); rintro e w' ⟨rfl, ⟨nd, rfl⟩⟩))
  (try simp only [Act.put, sx_, sy_, sz_])
  have H := HC6.out;clear HC6
  by_cases c11 : t356 = true
  ·subst c11
   rw [if_pos rfl] at H;obtain ⟨ji12, hji12⟩ : ∃ j_ : Int, (wrap64 (Int.tdiv a1 8)) = j_ := ⟨_, rfl⟩;rw [hji12] at H;have hji12w : (IntKind.i64.wrap (Int.tdiv a1 8)) = ji12 := (i64_w _).trans hji12
   by_cases c13 : 0 ≤ (ji12)
   ·rw [if_pos c13] at H
    have c13b0 : decide (0 ≤ (ji12)) = true := decide_eq_true c13;clear c13;(first | rw [c13b0] | (simp only [i64_w, i32_w]; rw [c13b0]) | skip)
    by_cases c14 : (ji12) < (l0_0.length : Int)
    ·rw [if_pos c14] at H
     have c14b0 : decide ((ji12) < (l0_0.length : Int)) = true := decide_eq_true c14;clear c14;obtain ⟨bq15, hbq15⟩ : ∃ b_ : Bool, b_ = ((rd_T77 l0_0 (ji12)).f1) := ⟨_, rfl⟩;rw [← hbq15] at H;have Nbq15 := Aside0.mk hbq15;clear hbq15
     by_cases c16 : (bq15 = true)
     ·subst c16
      rw [if_pos rfl] at H;obtain rfl := Option.some.inj H;obtain ⟨hcz17_0, hcz17_1, hfz17_0, hfz17_1⟩ := cs2_ BK354.out;have p357 : 0 ≤ ((ji12) : Int) := oa;have q357 : (ji12) < (l0_0.length : Int) := oa;obtain ⟨ad357, e357, hx357_0, hx357_1, hx357_2, hx357_3, hx357_4⟩ := at_T77 HR0_0.out (ji12) p357 q357
      (try rw [← Nbq15.out] at hx357_1)
      cases e357;replace hx357_0 := (HB.out.cell (World.block_lt_of_cell? w _ hx357_0)).trans hx357_0;replace hx357_1 := (HB.out.cell (World.block_lt_of_cell? w _ hx357_1)).trans hx357_1;replace hx357_2 := (HB.out.cell (World.block_lt_of_cell? w _ hx357_2)).trans hx357_2;replace hx357_3 := (HB.out.cell (World.block_lt_of_cell? w _ hx357_3)).trans hx357_3;replace hx357_4 := (HB.out.cell (World.block_lt_of_cell? w _ hx357_4)).trans hx357_4;replace p357 := eq_true p357;replace q357 := eq_true q357
      go_wp2_with (first | ((with_reducible refine gate_dst (N := 5) rfl ?_); (try (refine gate_guard (by rfl) ?_; dsimp only)); refine box_event ?hg (N := 5) ?hd (cs := #[.int .i64 0, .bool false, .int .i64 0, .int .i64 0, .int .i64 0]) (t := 77) ?hr ?_; (case hd => rfl); (case hg => rfl); (case hr => first | (go_simp; done) | (go_simp; rfl)); intro gb358 hg w18 hbox hb; have qB_ := bS_ (bw1 HB.out GE354.out) hb; replace HB := Aside0.mk (qB_.2); have BK358 := Aside0.mk (hbox); have GW358 := Aside0.mk ((by rw [hg]; exact qB_.1 : w.heap.size ≤ gb358)); have GE358 := GW358; have NB354_358 := Aside0.mk ((by rw [hg]; exact Nat.ne_of_lt (bL BK354.out) : gb354 ≠ gb358)); have NB358_354 := Aside0.mk ((by rw [hg]; exact Nat.ne_of_gt (bL BK354.out) : gb358 ≠ gb354)); replace BK354 := Aside0.mk (bB BK354.out hb); clear qB_; clear hb hbox hg; have hnb19 := NB358_354.out; have hnc19 := NB354_358.out; obtain ⟨hcz20_0, hcz20_1, hcz20_2, hcz20_3, hcz20_4, hfz20_0, hfz20_1, hfz20_2, hfz20_3, hfz20_4⟩ := cs5_ BK358.out))
      go_ret
      exact ⟨by first | rfl | (simp [errW_none, errW_some] <;> rfl) | (simp only [← hji12]; first | rfl | (simp [errW_none, errW_some] <;> rfl)) | (simp [*, errW_none, errW_some] <;> rfl), bw2 HB.out GE354.out GE358.out⟩
     ·replace c16 := Bool.eq_false_iff.mpr c16
      subst c16;rw [if_neg (show ¬ (false = true) by decide)] at H;obtain rfl := Option.some.inj H;obtain ⟨hcz21_0, hcz21_1, hfz21_0, hfz21_1⟩ := cs2_ BK354.out;have p357 : 0 ≤ ((ji12) : Int) := oa;have q357 : (ji12) < (l0_0.length : Int) := oa;obtain ⟨ad357, e357, hx357_0, hx357_1, hx357_2, hx357_3, hx357_4⟩ := at_T77 HR0_0.out (ji12) p357 q357
      (try rw [← Nbq15.out] at hx357_1)
      cases e357;replace hx357_0 := (HB.out.cell (World.block_lt_of_cell? w _ hx357_0)).trans hx357_0;replace hx357_1 := (HB.out.cell (World.block_lt_of_cell? w _ hx357_1)).trans hx357_1;replace hx357_2 := (HB.out.cell (World.block_lt_of_cell? w _ hx357_2)).trans hx357_2;replace hx357_3 := (HB.out.cell (World.block_lt_of_cell? w _ hx357_3)).trans hx357_3;replace hx357_4 := (HB.out.cell (World.block_lt_of_cell? w _ hx357_4)).trans hx357_4;replace p357 := eq_true p357;replace q357 := eq_true q357
      go_wp2_with (first | ((with_reducible refine gate_dst (N := 5) rfl ?_); (try (refine gate_guard (by rfl) ?_; dsimp only)); refine box_event ?hg (N := 5) ?hd (cs := #[.int .i64 0, .bool false, .int .i64 0, .int .i64 0, .int .i64 0]) (t := 77) ?hr ?_; (case hd => rfl); (case hg => rfl); (case hr => first | (go_simp; done) | (go_simp; rfl)); intro gb358 hg w22 hbox hb; have qB_ := bS_ (bw1 HB.out GE354.out) hb; replace HB := Aside0.mk (qB_.2); have BK358 := Aside0.mk (hbox); have GW358 := Aside0.mk ((by rw [hg]; exact qB_.1 : w.heap.size ≤ gb358)); have GE358 := GW358; have NB354_358 := Aside0.mk ((by rw [hg]; exact Nat.ne_of_lt (bL BK354.out) : gb354 ≠ gb358)); have NB358_354 := Aside0.mk ((by rw [hg]; exact Nat.ne_of_gt (bL BK354.out) : gb358 ≠ gb354)); replace BK354 := Aside0.mk (bB BK354.out hb); clear qB_; clear hb hbox hg; have hnb23 := NB358_354.out; have hnc23 := NB354_358.out; obtain ⟨hcz24_0, hcz24_1, hcz24_2, hcz24_3, hcz24_4, hfz24_0, hfz24_1, hfz24_2, hfz24_3, hfz24_4⟩ := cs5_ BK358.out))
      go_ret
      exact ⟨by first | rfl | (simp [errW_none, errW_some] <;> rfl) | (simp only [← hji12]; first | rfl | (simp [errW_none, errW_some] <;> rfl)) | (simp [*, errW_none, errW_some] <;> rfl), bw2 HB.out GE354.out GE358.out⟩
    ·rw [if_neg c14] at H
     exact absurd H (by simp)
   ·rw [if_neg c13] at H
    exact absurd H (by simp)
  ·replace c11 := Bool.eq_false_iff.mpr c11
   subst c11;rw [if_neg (show ¬ (false = true) by decide)] at H;obtain rfl := Option.some.inj H;go_wp2
   go_ret
   exact ⟨er, bw1 HB.out GE354.out⟩
 ·replace c4 := Bool.eq_false_iff.mpr c4
  subst c4;rw [if_neg (show ¬ (false = true) by decide)] at H;obtain rfl := Option.some.inj H
  go_enter Try.func70, Try.ntmps70
  go_wp2_with (first | ((with_reducible refine gate_dst (N := 2) rfl ?_); (try (refine gate_guard (by rfl) ?_; dsimp only)); refine box_event ?hg (N := 2) ?hd (cs := #[.slice A0_0 l0_0.length c0_0, .slice A0_1 l0_1.length c0_1]) (t := 27) ?hr ?_; (case hd => rfl); (case hg => rfl); (case hr => first | (go_simp; done) | (go_simp; rfl)); intro gb354 hg w25 hbox hb; have qB_ := bS_ (bw HB.out) hb; replace HB := Aside0.mk (qB_.2); have BK354 := Aside0.mk (hbox); have GW354 := Aside0.mk ((by rw [hg]; exact qB_.1 : w.heap.size ≤ gb354)); have GE354 := GW354; clear qB_; clear hb hbox hg; obtain ⟨hcz26_0, hcz26_1, hfz26_0, hfz26_1⟩ := cs2_ BK354.out) | ((with_reducible refine gate_callee (f := 68) rfl ?_); refine goesL_ (some 7) rfl rfl Try.func68 (by kernel_rfl) rfl #[.agg #[.slice A0_0 l0_0.length c0_0, .slice A0_1 l0_1.length c0_1]] rfl gl ?_; (with_reducible refine (spec_ArenaOk.calls k _ _ l0_0 _ _ l0_1 false _ ?side1 ?side2 ?side3 ?side4 A3.out).mono ?_); (case side1 => exact ck (Kd.C_below HR0_0.out HB.out)); (case side2 => exact HC0_0.out); (case side3 => exact ck (Kd.C_below HR0_1.out HB.out)); (case side4 => exact HC0_1.out); rintro e w27 ⟨rfl, hb⟩; refine ⟨_, rfl, ?_⟩; replace BK354 := Aside0.mk (bB BK354.out hb); replace HB := Aside0.mk (below_step (bw1 HB.out GE354.out) hb); clear hb))
  go_ret
  exact ⟨er, bw1 HB.out GE354.out⟩

def spec_l3Find.l0 : Nat → List (S41) → Int → Int → Option (Int)
 | 0, _, _, _ => none
 | k + 1, x0, x1, x5 => if x5 < (x0.length : Int) then (if 0 ≤ x5 then (if ((rd_T41 x0 x5).f0) = x1 then (some x5) else (spec_l3Find.l0 k x0 x1 (wrap64 (x5 + 1)))) else (none)) else (some (-1))
def spec_l3Find.f (k : Nat) (l0 : List (S41)) (a1 : Int) : Option (Int) := spec_l3Find.l0 k l0 a1 0
set_option maxHeartbeats 8000000 in
set_option maxRecDepth 100000 in
theorem spec_l3Find.calls (k : Nat) (A0 : Option Addr) (c0 : Nat) (l0 : List (S41)) (a1 : Int) (r : Int) (w : World) (hr0 : Kd.C k41 w A0 l0.length l0) (hc0 : l0.length ≤ c0) (h : spec_l3Find.f k l0 a1 = some r) :
  Calls Try.prog 71 #[.slice A0 l0.length c0, .int .i64 a1] w fun e w' => e = .returned (.int .i64 r) ∧ Drawn0 w w' := by
 have HR0 := Aside0.mk hr0;have HC0 := Aside0.mk hc0;clear hr0 hc0;have H : (spec_l3Find.l0 k l0 a1 0) = some r := h;clear h;have H' := Aside0.mk H;clear H
 go_enter Try.func71, Try.ntmps71
 go_wp2
 go_loopg [5] k (fun kq v5 w' => ∃ (x5_1 : Int), v5 = .int .i64 x5_1 ∧ Aside0 (spec_l3Find.l0 kq l0 a1 x5_1 = some r) ∧ Aside0 (kq ≤ k) ∧ Drawn0 w w')
 case atStart => exact ⟨(0), (by first | rfl | (simp; done) | (simp [*]; done)), H', ⟨Nat.le_refl _⟩, by repeat (first | exact Drawn0.refl _ | apply Drawn0.step)⟩
 case round =>
  clear H'
  try clear p2
  obtain ⟨x5_1, rfl, HA, HK1, ⟨m1, rfl⟩⟩ := hrel;cases gk with
  | zero => exact absurd HA.out (by simp [spec_l3Find.l0])
  | succ k1 =>
   have H := HA.out;clear HA;simp only [spec_l3Find.l0] at H
   by_cases c3 : x5_1 < (l0.length : Int)
   ·rw [if_pos c3] at H
    have c3b0 : decide (x5_1 < (l0.length : Int)) = true := decide_eq_true c3;clear c3
    by_cases c4 : 0 ≤ x5_1
    ·rw [if_pos c4] at H
     have c4b0 : decide (0 ≤ x5_1) = true := decide_eq_true c4;clear c4
     by_cases c5 : ((rd_T41 l0 x5_1).f0) = a1
     ·rw [if_pos c5] at H
      have c5b0 : (((rd_T41 l0 x5_1).f0) == a1) = true := beq_iff_eq.mpr c5;have c5b1 : (((rd_T41 l0 x5_1).f0) != a1) = false := bne_eq_false_iff_eq.mpr c5;clear c5;obtain rfl := Option.some.inj H;have p388 : 0 ≤ (x5_1 : Int) := oa;have q388 : x5_1 < (l0.length : Int) := oa;obtain ⟨ad388, e388, hx388_0, hx388_1⟩ := at_T41 HR0.out x5_1 p388 q388;cases e388;replace p388 := eq_true p388;replace q388 := eq_true q388;go_wp2
      go_ret
      exact ⟨by first | rfl | (simp; done) | (simp [*]; done), by repeat (first | exact Drawn0.refl _ | apply Drawn0.step)⟩
     ·rw [if_neg c5] at H
      have c5b0 : (((rd_T41 l0 x5_1).f0) == a1) = false := beq_eq_false_iff_ne.mpr c5;have c5b1 : (((rd_T41 l0 x5_1).f0) != a1) = true := bne_iff_ne.mpr c5;have H' := Aside0.mk H;clear H;have p388 : 0 ≤ (x5_1 : Int) := oa;have q388 : x5_1 < (l0.length : Int) := oa;obtain ⟨ad388, e388, hx388_0, hx388_1⟩ := at_T41 HR0.out x5_1 p388 q388;cases e388;replace p388 := eq_true p388;replace q388 := eq_true q388;go_wp2
      go_roundg k1
      case measure => have := HK1.out; omega
      case rel => exact ⟨(wrap64 (x5_1 + 1)), (by first | rfl | (simp; done) | (simp [*]; done)), H', ⟨by have := HK1.out; omega⟩, by repeat (first | exact Drawn0.refl _ | apply Drawn0.step)⟩
    ·rw [if_neg c4] at H
     exact absurd H (by simp)
   ·rw [if_neg c3] at H
    have c3b0 : decide (x5_1 < (l0.length : Int)) = false := decide_eq_false c3;clear c3;obtain rfl := Option.some.inj H;go_wp2
    go_ret
    exact ⟨by first | rfl | (simp; done) | (simp [*]; done), by repeat (first | exact Drawn0.refl _ | apply Drawn0.step)⟩


end Go.Proofs.Ytemdjfiimgjiaaa.S
