/- What the Go functions that the law FnExactPass reaches compute, as plain Lean functions, and that their calls come to just that. Conditions: those that each theorem states. Written by the session's program. -/
import Derived.Test.YtemdjfiimgjiaaaVFnExactPassB
namespace Go.Proofs.Ytemdjfiimgjiaaa.S
open Go.Proofs.Ytemdjfiimgjiaaa.Sq
open Go.RowKit Go.Proofs.YtemdjfiimgjiaaaW.PrintWords Go.Proofs.YtemdjfiimgjiaaaW.PrintLast Go.Proofs.YtemdjfiimgjiaaaW.PrintMore
attribute [local go_sem] max2_int min2_int max_two min_two max_three min_three max_four min_four   -- for this text's walks alone
set_option linter.unusedVariables false
set_option linter.unusedSimpArgs false

def impl_in.f (a0 : Int) (a1 : Int) (a2 : Int) : Option (Bool) := if a1 ≤ a0 then (some (decide (a0 ≤ a2))) else (some false)
set_option maxHeartbeats 8000000 in
set_option maxRecDepth 100000 in
theorem impl_in.calls (a0 : Int) (a1 : Int) (a2 : Int) (r : Bool) (w : World) (h : impl_in.f a0 a1 a2 = some r) :
  Calls Try.prog 44 #[.int .i64 a0, .int .i64 a1, .int .i64 a2] w fun e w' => e = .returned (.bool r) ∧ Drawn0 w w' := by
 have H : (if a1 ≤ a0 then (some (decide (a0 ≤ a2))) else (some false)) = some r := h;clear h
 by_cases c4 : a1 ≤ a0
 ·rw [if_pos c4] at H
  have c4b0 : decide (a1 ≤ a0) = true := decide_eq_true c4;clear c4;obtain rfl := Option.some.inj H
  go_enter Try.func44, Try.ntmps44
  go_wp2
  go_ret
  exact ⟨by first | rfl | (simp; done) | (simp [*]; done), by repeat (first | exact Drawn0.refl _ | apply Drawn0.step)⟩
 ·rw [if_neg c4] at H
  have c4b0 : decide (a1 ≤ a0) = false := decide_eq_false c4;clear c4;obtain rfl := Option.some.inj H
  go_enter Try.func44, Try.ntmps44
  go_wp2
  go_ret
  exact ⟨by first | rfl | (simp; done) | (simp [*]; done), by repeat (first | exact Drawn0.refl _ | apply Drawn0.step)⟩

def impl_isListed.f (a0_0 : Int) (a0_1 : Bool) (a0_2 : Int) (a0_3 : Int) (a0_4 : Int) : Option (Bool) := if a0_1 = true then (some (decide (a0_0 < 5))) else (some false)
set_option maxHeartbeats 8000000 in
set_option maxRecDepth 100000 in
theorem impl_isListed.calls (a0_0 : Int) (a0_1 : Bool) (a0_2 : Int) (a0_3 : Int) (a0_4 : Int) (r : Bool) (w : World) (h : impl_isListed.f a0_0 a0_1 a0_2 a0_3 a0_4 = some r) :
  Calls Try.prog 81 #[.agg #[.int .i64 a0_0, .bool a0_1, .int .i64 a0_2, .int .i64 a0_3, .int .i64 a0_4]] w fun e w' => e = .returned (.bool r) ∧ Below w.heap.size w w' := by
 have hu77 := Try.underlying77;have HB := Aside0.mk (Below.refl w.heap.size w);have H : (if a0_1 = true then (some (decide (a0_0 < 5))) else (some false)) = some r := h;clear h
 by_cases c2 : a0_1 = true
 ·subst c2
  rw [if_pos rfl] at H;obtain rfl := Option.some.inj H
  go_enter Try.func81, Try.ntmps81
  go_wp2_with (first | ((with_reducible refine gate_dst (N := 1) rfl ?_); refine box_event ?hg (N := 1) ?hd (cs := #[.int .i64 a0_0, .bool true, .int .i64 a0_2, .int .i64 a0_3, .int .i64 a0_4]) (t := 77) ?hr ?_; (case hd => rfl); (case hg => rfl); (case hr => first | (go_simp; done) | (go_simp; rfl)); intro gb101 hg w3 hbox hb; have qB_ := bS_ (bw HB.out) hb; replace HB := Aside0.mk (qB_.2); have BK101 := Aside0.mk (hbox); have GW101 := Aside0.mk ((by rw [hg]; exact qB_.1 : w.heap.size ≤ gb101)); have GE101 := GW101; clear qB_; clear hb hbox hg; obtain ⟨hcz4_0, hcz4_1, hcz4_2, hcz4_3, hcz4_4, hfz4_0, hfz4_1, hfz4_2, hfz4_3, hfz4_4⟩ := cs5_ BK101.out))
  go_ret
  exact ⟨er, bw1 HB.out GE101.out⟩
 ·replace c2 := Bool.eq_false_iff.mpr c2
  subst c2;rw [if_neg (show ¬ (false = true) by decide)] at H;obtain rfl := Option.some.inj H
  go_enter Try.func81, Try.ntmps81
  go_wp2_with (first | ((with_reducible refine gate_dst (N := 1) rfl ?_); refine box_event ?hg (N := 1) ?hd (cs := #[.int .i64 a0_0, .bool false, .int .i64 a0_2, .int .i64 a0_3, .int .i64 a0_4]) (t := 77) ?hr ?_; (case hd => rfl); (case hg => rfl); (case hr => first | (go_simp; done) | (go_simp; rfl)); intro gb101 hg w5 hbox hb; have qB_ := bS_ (bw HB.out) hb; replace HB := Aside0.mk (qB_.2); have BK101 := Aside0.mk (hbox); have GW101 := Aside0.mk ((by rw [hg]; exact qB_.1 : w.heap.size ≤ gb101)); have GE101 := GW101; clear qB_; clear hb hbox hg; obtain ⟨hcz6_0, hcz6_1, hcz6_2, hcz6_3, hcz6_4, hfz6_0, hfz6_1, hfz6_2, hfz6_3, hfz6_4⟩ := cs5_ BK101.out))
  go_ret
  exact ⟨er, bw1 HB.out GE101.out⟩

-- NOT PRINTED: function 84 (slices_IndexFunc_int_int)

-- NOT PRINTED: function 45 (slices_ContainsFunc_int_int)

def impl_isValue.f (a0 : Int) : Option (Bool) := (impl_in.f a0 (-1000000000) 1000000000).bind fun t102 => (some t102)
set_option maxHeartbeats 8000000 in
set_option maxRecDepth 100000 in
theorem impl_isValue.calls (a0 : Int) (r : Bool) (w : World) (h : impl_isValue.f a0 = some r) :
  Calls Try.prog 100 #[.int .i64 a0] w fun e w' => e = .returned (.bool r) ∧ Drawn0 w w' := by
 have H : ((impl_in.f a0 (-1000000000) 1000000000).bind fun t102 => (some t102)) = some r := h;clear h;replace H := bO_ H;obtain ⟨t102, A2, H⟩ := H;obtain rfl := Option.some.inj H
 go_enter Try.func100, Try.ntmps100
 go_wp2_with (first | ((with_reducible refine gate_callee (f := 44) rfl ?_); refine goesL_ (some 4) rfl rfl Try.func44 (by kernel_rfl) rfl #[.int .i64 a0, .int .i64 (-1000000000), .int .i64 1000000000] rfl gl ?_; (with_reducible refine (impl_in.calls a0 (-1000000000) 1000000000 t102 _ A2.out).mono ?_); rintro e w' ⟨rfl, ⟨nd, rfl⟩⟩; refine ⟨_, rfl, ?_⟩))
 go_ret
 exact ⟨by first | rfl | (simp; done) | (simp [*]; done), by repeat (first | exact Drawn0.refl _ | apply Drawn0.step)⟩

def impl_areValues_1.f (a0 : Int) : Option (Bool) := (impl_isValue.f a0).bind fun t103 => (some (!t103))
set_option maxHeartbeats 8000000 in
set_option maxRecDepth 100000 in
theorem impl_areValues_1.calls (a0 : Int) (r : Bool) (w : World) (h : impl_areValues_1.f a0 = some r) :
  Calls Try.prog 99 #[.int .i64 a0] w fun e w' => e = .returned (.bool r) ∧ Drawn0 w w' := by
 have H : ((impl_isValue.f a0).bind fun t103 => (some (!t103))) = some r := h;clear h;replace H := bO_ H;obtain ⟨t103, A2, H⟩ := H;obtain rfl := Option.some.inj H
 go_enter Try.func99, Try.ntmps99
 go_wp2_with (first | ((with_reducible refine gate_callee (f := 100) rfl ?_); refine goesL_ (some 4) rfl rfl Try.func100 (by kernel_rfl) rfl #[.int .i64 a0] rfl gl ?_; (with_reducible refine (impl_isValue.calls a0 t103 _ A2.out).mono ?_); rintro e w' ⟨rfl, ⟨nd, rfl⟩⟩; refine ⟨_, rfl, ?_⟩))
 go_ret
 exact ⟨by first | rfl | (simp; done) | (simp [*]; done), by repeat (first | exact Drawn0.refl _ | apply Drawn0.step)⟩

def slices_IndexFunc_int_int_F99.l0 : Nat → List Int → Int → Int → Option (Int)
 | 0, _, _, _ => none
 | k + 1, x0, x7, x8 => if x8 < x7 then (if 0 ≤ x8 then (if x8 < (x0.length : Int) then ((impl_areValues_1.f (rd x0 x8)).bind fun t105 => (if t105 = true then (some x8) else (slices_IndexFunc_int_int_F99.l0 k x0 x7 (wrap64 (x8 + 1))))) else (none)) else (none)) else (some (-1))
def slices_IndexFunc_int_int_F99.f (k : Nat) (l0 : List Int)  : Option (Int) := slices_IndexFunc_int_int_F99.l0 k l0 (l0.length : Int) 0
set_option maxHeartbeats 8000000 in
set_option maxRecDepth 100000 in
theorem slices_IndexFunc_int_int_F99.calls (k : Nat) (A0 : Option Addr) (c0 : Nat) (l0 : List Int)  (r : Int) (w : World) (hr0 : Kd.C (Kd.int .i64) w A0 l0.length l0) (hc0 : l0.length ≤ c0) (h : slices_IndexFunc_int_int_F99.f k l0 = some r) :
  Calls Try.prog 84 #[.slice A0 l0.length c0, .func (.func 99) #[] #[]] w fun e w' => e = .returned (.int .i64 r) ∧ Drawn0 w w' := by
 have HR0 := Aside0.mk hr0;have HC0 := Aside0.mk hc0;clear hr0 hc0;have H : (slices_IndexFunc_int_int_F99.l0 k l0 (l0.length : Int) 0) = some r := h;clear h;have H' := Aside0.mk H;clear H
 go_enter Try.func84, Try.ntmps84
 go_wp2
 go_loopg [8] k (fun kq v8 w' => ∃ (x8_1 : Int), v8 = .int .i64 x8_1 ∧ Aside0 (slices_IndexFunc_int_int_F99.l0 kq l0 (l0.length : Int) x8_1 = some r) ∧ Aside0 (kq ≤ k) ∧ Drawn0 w w')
 case atStart => exact ⟨(0), (by first | rfl | (simp; done) | (simp [*]; done)), H', ⟨Nat.le_refl _⟩, by repeat (first | exact Drawn0.refl _ | apply Drawn0.step)⟩
 case round =>
  clear H'
  try clear p2
  obtain ⟨x8_1, rfl, HA, HK1, ⟨m1, rfl⟩⟩ := hrel;cases gk with
  | zero => exact absurd HA.out (by simp [slices_IndexFunc_int_int_F99.l0])
  | succ k1 =>
   have H := HA.out;clear HA;simp only [slices_IndexFunc_int_int_F99.l0] at H
   by_cases c3 : x8_1 < (l0.length : Int)
   ·rw [if_pos c3] at H
    have c3b0 : decide (x8_1 < (l0.length : Int)) = true := decide_eq_true c3;clear c3
    by_cases c4 : 0 ≤ x8_1
    ·rw [if_pos c4] at H
     have c4b0 : decide (0 ≤ x8_1) = true := decide_eq_true c4;clear c4
     by_cases c5 : x8_1 < (l0.length : Int)
     ·rw [if_pos c5] at H
      have c5b0 : decide (x8_1 < (l0.length : Int)) = true := decide_eq_true c5;clear c5;replace H := bO_ H;obtain ⟨t105, A6, H⟩ := H;have HC7 := Aside0.mk H;clear H;have p104 : 0 ≤ (x8_1 : Int) := oa;have q104 : x8_1 < (l0.length : Int) := oa;obtain ⟨ad104, e104, hx104_0⟩ := Kd.at_int HR0.out x8_1 p104 q104;cases e104;replace p104 := eq_true p104;replace q104 := eq_true q104
      go_upto_if 16 with (first | (go_at_call 99; (with_reducible refine (impl_areValues_1.calls (rd l0 x8_1) t105 _ A6.out).mono ?_); rintro e w' ⟨rfl, ⟨nd, rfl⟩⟩))
      (try simp only [Act.put, sx_, sy_, sz_])
      have H := HC7.out;clear HC7
      by_cases c8 : t105 = true
      ·subst c8
       rw [if_pos rfl] at H;obtain rfl := Option.some.inj H;go_wp2
       go_ret
       exact ⟨by first | rfl | (simp; done) | (simp [*]; done), by repeat (first | exact Drawn0.refl _ | apply Drawn0.step)⟩
      ·replace c8 := Bool.eq_false_iff.mpr c8
       subst c8;rw [if_neg (show ¬ (false = true) by decide)] at H;have H' := Aside0.mk H;clear H;go_wp2
       go_roundg k1
       case measure => have := HK1.out; omega
       case rel => exact ⟨(wrap64 (x8_1 + 1)), (by first | rfl | (simp; done) | (simp [*]; done)), H', ⟨by have := HK1.out; omega⟩, by repeat (first | exact Drawn0.refl _ | apply Drawn0.step)⟩
     ·rw [if_neg c5] at H
      exact absurd H (by simp)
    ·rw [if_neg c4] at H
     exact absurd H (by simp)
   ·rw [if_neg c3] at H
    have c3b0 : decide (x8_1 < (l0.length : Int)) = false := decide_eq_false c3;clear c3;obtain rfl := Option.some.inj H;go_wp2
    go_ret
    exact ⟨by first | rfl | (simp; done) | (simp [*]; done), by repeat (first | exact Drawn0.refl _ | apply Drawn0.step)⟩

def slices_ContainsFunc_int_int_F99.f (k : Nat) (l0 : List Int)  : Option (Bool) := (slices_IndexFunc_int_int_F99.f k l0).bind fun t106 => (some (decide (t106 ≥ 0)))
set_option maxHeartbeats 8000000 in
set_option maxRecDepth 100000 in
theorem slices_ContainsFunc_int_int_F99.calls (k : Nat) (A0 : Option Addr) (c0 : Nat) (l0 : List Int)  (r : Bool) (w : World) (hr0 : Kd.C (Kd.int .i64) w A0 l0.length l0) (hc0 : l0.length ≤ c0) (h : slices_ContainsFunc_int_int_F99.f k l0 = some r) :
  Calls Try.prog 45 #[.slice A0 l0.length c0, .func (.func 99) #[] #[]] w fun e w' => e = .returned (.bool r) ∧ Drawn0 w w' := by
 have HR0 := Aside0.mk hr0;have HC0 := Aside0.mk hc0;clear hr0 hc0;have H : ((slices_IndexFunc_int_int_F99.f k l0).bind fun t106 => (some (decide (t106 ≥ 0)))) = some r := h;clear h;replace H := bO_ H;obtain ⟨t106, A3, H⟩ := H;obtain rfl := Option.some.inj H
 go_enter Try.func45, Try.ntmps45
 go_wp2_with (first | ((with_reducible refine gate_callee (f := 84) rfl ?_); refine goesL_ (some 7) rfl rfl Try.func84 (by kernel_rfl) rfl #[.slice A0 l0.length c0, .func (.func 99) #[] #[]] rfl gl ?_; (with_reducible refine (slices_IndexFunc_int_int_F99.calls k _ _ l0  t106 _ ?side1 ?side2 A3.out).mono ?_); (case side1 => exact ck HR0.out); (case side2 => exact HC0.out); rintro e w' ⟨rfl, ⟨nd, rfl⟩⟩; refine ⟨_, rfl, ?_⟩))
 go_ret
 exact ⟨by first | rfl | (simp; done) | (simp [*]; done), by repeat (first | exact Drawn0.refl _ | apply Drawn0.step)⟩

def impl_areValues.f (k : Nat) (l0 : List Int) : Option (Bool) := (slices_ContainsFunc_int_int_F99.f k l0).bind fun t107 => (some (!t107))
set_option maxHeartbeats 8000000 in
set_option maxRecDepth 100000 in
theorem impl_areValues.calls (k : Nat) (A0 : Option Addr) (c0 : Nat) (l0 : List Int) (r : Bool) (w : World) (hr0 : Kd.C (Kd.int .i64) w A0 l0.length l0) (hc0 : l0.length ≤ c0) (h : impl_areValues.f k l0 = some r) :
  Calls Try.prog 82 #[.slice A0 l0.length c0] w fun e w' => e = .returned (.bool r) ∧ Drawn0 w w' := by
 have HR0 := Aside0.mk hr0;have HC0 := Aside0.mk hc0;clear hr0 hc0;have H : ((slices_ContainsFunc_int_int_F99.f k l0).bind fun t107 => (some (!t107))) = some r := h;clear h;replace H := bO_ H;obtain ⟨t107, A2, H⟩ := H;obtain rfl := Option.some.inj H
 go_enter Try.func82, Try.ntmps82
 go_wp2_with (first | ((with_reducible refine gate_callee (f := 45) rfl ?_); refine goesL_ (some 4) rfl rfl Try.func45 (by kernel_rfl) rfl #[.slice A0 l0.length c0, .func (.func 99) #[] #[]] rfl gl ?_; (with_reducible refine (slices_ContainsFunc_int_int_F99.calls k _ _ l0  t107 _ ?side1 ?side2 A2.out).mono ?_); (case side1 => exact ck HR0.out); (case side2 => exact HC0.out); rintro e w' ⟨rfl, ⟨nd, rfl⟩⟩; refine ⟨_, rfl, ?_⟩))
 go_ret
 exact ⟨by first | rfl | (simp; done) | (simp [*]; done), by repeat (first | exact Drawn0.refl _ | apply Drawn0.step)⟩

def slices_Index_int_int.l0 : Nat → List Int → Int → Int → Int → Option (Int)
 | 0, _, _, _, _ => none
 | k + 1, x0, x1, x7, x8 => if x8 < x7 then (if 0 ≤ x8 then (if x8 < (x0.length : Int) then (if x1 = (rd x0 x8) then (some x8) else (slices_Index_int_int.l0 k x0 x1 x7 (wrap64 (x8 + 1)))) else (none)) else (none)) else (some (-1))
def slices_Index_int_int.f (k : Nat) (l0 : List Int) (a1 : Int) : Option (Int) := slices_Index_int_int.l0 k l0 a1 (l0.length : Int) 0
set_option maxHeartbeats 8000000 in
set_option maxRecDepth 100000 in
theorem slices_Index_int_int.calls (k : Nat) (A0 : Option Addr) (c0 : Nat) (l0 : List Int) (a1 : Int) (r : Int) (w : World) (hr0 : Kd.C (Kd.int .i64) w A0 l0.length l0) (hc0 : l0.length ≤ c0) (h : slices_Index_int_int.f k l0 a1 = some r) :
  Calls Try.prog 101 #[.slice A0 l0.length c0, .int .i64 a1] w fun e w' => e = .returned (.int .i64 r) ∧ Drawn0 w w' := by
 have HR0 := Aside0.mk hr0;have HC0 := Aside0.mk hc0;clear hr0 hc0;have H : (slices_Index_int_int.l0 k l0 a1 (l0.length : Int) 0) = some r := h;clear h;have H' := Aside0.mk H;clear H
 go_enter Try.func101, Try.ntmps101
 go_wp2
 go_loopg [8] k (fun kq v8 w' => ∃ (x8_1 : Int), v8 = .int .i64 x8_1 ∧ Aside0 (slices_Index_int_int.l0 kq l0 a1 (l0.length : Int) x8_1 = some r) ∧ Aside0 (kq ≤ k) ∧ Drawn0 w w')
 case atStart => exact ⟨(0), (by first | rfl | (simp; done) | (simp [*]; done)), H', ⟨Nat.le_refl _⟩, by repeat (first | exact Drawn0.refl _ | apply Drawn0.step)⟩
 case round =>
  clear H'
  skip
  obtain ⟨x8_1, rfl, HA, HK1, ⟨m1, rfl⟩⟩ := hrel;cases gk with
  | zero => exact absurd HA.out (by simp [slices_Index_int_int.l0])
  | succ k1 =>
   have H := HA.out;clear HA;simp only [slices_Index_int_int.l0] at H
   by_cases c3 : x8_1 < (l0.length : Int)
   ·rw [if_pos c3] at H
    have c3b0 : decide (x8_1 < (l0.length : Int)) = true := decide_eq_true c3;clear c3
    by_cases c4 : 0 ≤ x8_1
    ·rw [if_pos c4] at H
     have c4b0 : decide (0 ≤ x8_1) = true := decide_eq_true c4;clear c4
     by_cases c5 : x8_1 < (l0.length : Int)
     ·rw [if_pos c5] at H
      have c5b0 : decide (x8_1 < (l0.length : Int)) = true := decide_eq_true c5;clear c5
      by_cases c6 : a1 = (rd l0 x8_1)
      ·rw [if_pos c6] at H
       have c6b0 : (a1 == (rd l0 x8_1)) = true := beq_iff_eq.mpr c6;have c6b1 : (a1 != (rd l0 x8_1)) = false := bne_eq_false_iff_eq.mpr c6;clear c6;obtain rfl := Option.some.inj H;have p108 : 0 ≤ (x8_1 : Int) := oa;have q108 : x8_1 < (l0.length : Int) := oa;obtain ⟨ad108, e108, hx108_0⟩ := Kd.at_int HR0.out x8_1 p108 q108;cases e108;replace p108 := eq_true p108;replace q108 := eq_true q108;go_wp2
       go_ret
       exact ⟨by first | rfl | (simp; done) | (simp [*]; done), by repeat (first | exact Drawn0.refl _ | apply Drawn0.step)⟩
      ·rw [if_neg c6] at H
       have c6b0 : (a1 == (rd l0 x8_1)) = false := beq_eq_false_iff_ne.mpr c6;have c6b1 : (a1 != (rd l0 x8_1)) = true := bne_iff_ne.mpr c6;have H' := Aside0.mk H;clear H;have p108 : 0 ≤ (x8_1 : Int) := oa;have q108 : x8_1 < (l0.length : Int) := oa;obtain ⟨ad108, e108, hx108_0⟩ := Kd.at_int HR0.out x8_1 p108 q108;cases e108;replace p108 := eq_true p108;replace q108 := eq_true q108;go_wp2
       go_roundg k1
       case measure => have := HK1.out; omega
       case rel => exact ⟨(wrap64 (x8_1 + 1)), (by first | rfl | (simp; done) | (simp [*]; done)), H', ⟨by have := HK1.out; omega⟩, by repeat (first | exact Drawn0.refl _ | apply Drawn0.step)⟩
     ·rw [if_neg c5] at H
      exact absurd H (by simp)
    ·rw [if_neg c4] at H
     exact absurd H (by simp)
   ·rw [if_neg c3] at H
    have c3b0 : decide (x8_1 < (l0.length : Int)) = false := decide_eq_false c3;clear c3;obtain rfl := Option.some.inj H;go_wp2
    go_ret
    exact ⟨by first | rfl | (simp; done) | (simp [*]; done), by repeat (first | exact Drawn0.refl _ | apply Drawn0.step)⟩

def slices_Contains_int_int.f (k : Nat) (l0 : List Int) (a1 : Int) : Option (Bool) := (slices_Index_int_int.f k l0 a1).bind fun t109 => (some (decide (t109 ≥ 0)))
set_option maxHeartbeats 8000000 in
set_option maxRecDepth 100000 in
theorem slices_Contains_int_int.calls (k : Nat) (A0 : Option Addr) (c0 : Nat) (l0 : List Int) (a1 : Int) (r : Bool) (w : World) (hr0 : Kd.C (Kd.int .i64) w A0 l0.length l0) (hc0 : l0.length ≤ c0) (h : slices_Contains_int_int.f k l0 a1 = some r) :
  Calls Try.prog 83 #[.slice A0 l0.length c0, .int .i64 a1] w fun e w' => e = .returned (.bool r) ∧ Drawn0 w w' := by
 have HR0 := Aside0.mk hr0;have HC0 := Aside0.mk hc0;clear hr0 hc0;have H : ((slices_Index_int_int.f k l0 a1).bind fun t109 => (some (decide (t109 ≥ 0)))) = some r := h;clear h;replace H := bO_ H;obtain ⟨t109, A3, H⟩ := H;obtain rfl := Option.some.inj H
 go_enter Try.func83, Try.ntmps83
 go_wp2_with (first | ((with_reducible refine gate_callee (f := 101) rfl ?_); refine goesL_ (some 7) rfl rfl Try.func101 (by kernel_rfl) rfl #[.slice A0 l0.length c0, .int .i64 a1] rfl gl ?_; (with_reducible refine (slices_Index_int_int.calls k _ _ l0 a1 t109 _ ?side1 ?side2 A3.out).mono ?_); (case side1 => exact ck HR0.out); (case side2 => exact HC0.out); rintro e w' ⟨rfl, ⟨nd, rfl⟩⟩; refine ⟨_, rfl, ?_⟩))
 go_ret
 exact ⟨by first | rfl | (simp; done) | (simp [*]; done), by repeat (first | exact Drawn0.refl _ | apply Drawn0.step)⟩


end Go.Proofs.Ytemdjfiimgjiaaa.S
namespace Go.Proofs.Ytemdjfiimgjiaaa.S
open Go.Proofs.Ytemdjfiimgjiaaa.Sq
open Go.RowKit Go.Proofs.YtemdjfiimgjiaaaW.PrintWords Go.Proofs.YtemdjfiimgjiaaaW.PrintLast Go.Proofs.YtemdjfiimgjiaaaW.PrintMore
attribute [local go_sem] max2_int min2_int max_two min_two max_three min_three max_four min_four   -- for this text's walks alone
set_option linter.unusedVariables false
set_option linter.unusedSimpArgs false

mutual
def impl_ArenaOk.l0 : Nat → Int → List (S77) → Int → Int → List (S77) → List Int → Option (Bool)
 | 0, _, _, _, _, _, _ => none
 | k + 1, x3, x14, x15, x16, x111000, x111001 => if x16 < x15 then (if 0 ≤ x16 then (if x16 < (x14.length : Int) then ((impl_in.f ((rd_T77 x14 x16).f0) 0 5).bind fun t114 => (if t114 = true then (if ((rd_T77 x14 x16).f1 = true) then ((impl_areValues.f k ([(rd_T77 x14 x16).f2.f0, (rd_T77 x14 x16).f2.f1, (rd_T77 x14 x16).f2.f2])).bind fun t119 => (impl_ArenaOk.j1 k x3 x14 x15 x16 (!t119) x111000 x111001 ((rd_T77 x14 x16).f0) ((rd_T77 x14 x16).f1) ((rd_T77 x14 x16).f2.f0) ((rd_T77 x14 x16).f2.f1) ((rd_T77 x14 x16).f2.f2))) else (if ((rd_T77 x14 x16).f0) = 5 then (impl_ArenaOk.j1 k x3 x14 x15 x16 true x111000 x111001 ((rd_T77 x14 x16).f0) ((rd_T77 x14 x16).f1) ((rd_T77 x14 x16).f2.f0) ((rd_T77 x14 x16).f2.f1) ((rd_T77 x14 x16).f2.f2)) else ((impl_areValues.f k ([(rd_T77 x14 x16).f2.f0, (rd_T77 x14 x16).f2.f1, (rd_T77 x14 x16).f2.f2])).bind fun t124 => (impl_ArenaOk.j1 k x3 x14 x15 x16 (!t124) x111000 x111001 ((rd_T77 x14 x16).f0) ((rd_T77 x14 x16).f1) ((rd_T77 x14 x16).f2.f0) ((rd_T77 x14 x16).f2.f1) ((rd_T77 x14 x16).f2.f2))))) else (impl_ArenaOk.j1 k x3 x14 x15 x16 true x111000 x111001 ((rd_T77 x14 x16).f0) ((rd_T77 x14 x16).f1) ((rd_T77 x14 x16).f2.f0) ((rd_T77 x14 x16).f2.f1) ((rd_T77 x14 x16).f2.f2)))) else (none)) else (none)) else (impl_ArenaOk.l1 k x3 x111001 (x111001.length : Int) 0 x111000 x111001)
def impl_ArenaOk.j1 : Nat → Int → List (S77) → Int → Int → Bool → List (S77) → List Int → Int → Bool → Int → Int → Int → Option (Bool)
 | 0, _, _, _, _, _, _, _, _, _, _, _, _ => none
 | k + 1, x3, x14, x15, x16, x39, x111000, x111001, x114000, x114001, x114002, x114003, x114004 => if x39 = true then (some false) else ((impl_isListed.f x114000 x114001 x114002 x114003 x114004).bind fun t125 => (if t125 = true then (impl_ArenaOk.l0 k (wrap64 (x3 + 1)) x14 x15 (wrap64 (x16 + 1)) x111000 x111001) else (impl_ArenaOk.l0 k x3 x14 x15 (wrap64 (x16 + 1)) x111000 x111001)))
def impl_ArenaOk.l1 : Nat → Int → List Int → Int → Int → List (S77) → List Int → Option (Bool)
 | 0, _, _, _, _, _, _ => none
 | k + 1, x3, x46, x47, x48, x111000, x111001 => if x48 < x47 then (if 0 ≤ x48 then (if x48 < (x46.length : Int) then ((impl_in.f (rd x46 x48) 0 (wrap64 ((x111000.length : Int) - 1))).bind fun t127 => (if t127 = true then (if 0 ≤ (rd x46 x48) then (if (rd x46 x48) < (x111000.length : Int) then ((impl_isListed.f ((rd_T77 x111000 (rd x46 x48)).f0) ((rd_T77 x111000 (rd x46 x48)).f1) ((rd_T77 x111000 (rd x46 x48)).f2.f0) ((rd_T77 x111000 (rd x46 x48)).f2.f1) ((rd_T77 x111000 (rd x46 x48)).f2.f2)).bind fun t129 => (if t129 = true then (if x48 ≤ (x111001.length : Int) then ((slices_Contains_int_int.f k (x111001.take (x48 : Int).toNat) (rd x46 x48)).bind fun t131 => (if t131 = true then (some false) else (impl_ArenaOk.l1 k x3 x46 x47 (wrap64 (x48 + 1)) x111000 x111001))) else (none)) else (some false))) else (none)) else (none)) else (some false))) else (none)) else (none)) else (some ((x111001.length : Int) == x3))
end
def impl_ArenaOk.f (k : Nat) (l0_0 : List (S77)) (l0_1 : List Int) : Option (Bool) := (impl_in.f (l0_0.length : Int) 1 24).bind fun t111 => (if t111 = true then (impl_ArenaOk.l0 k 0 l0_0 (l0_0.length : Int) 0 l0_0 l0_1) else (some false))
set_option maxHeartbeats 8000000 in
set_option maxRecDepth 100000 in
theorem impl_ArenaOk.calls (k : Nat) (A0_0 : Option Addr) (c0_0 : Nat) (l0_0 : List (S77)) (A0_1 : Option Addr) (c0_1 : Nat) (l0_1 : List Int) (r : Bool) (w : World) (hr0_0 : Kd.C k77 w A0_0 l0_0.length l0_0) (hc0_0 : l0_0.length ≤ c0_0) (hr0_1 : Kd.C (Kd.int .i64) w A0_1 l0_1.length l0_1) (hc0_1 : l0_1.length ≤ c0_1) (h : impl_ArenaOk.f k l0_0 l0_1 = some r) :
  Calls Try.prog 43 #[.agg #[.slice A0_0 l0_0.length c0_0, .slice A0_1 l0_1.length c0_1]] w fun e w' => e = .returned (.bool r) ∧ Below w.heap.size w w' := by
 have hu27 := Try.underlying27;have hu77 := Try.underlying77;have HR0_0 := Aside0.mk hr0_0;have HC0_0 := Aside0.mk hc0_0;clear hr0_0 hc0_0;have HR0_1 := Aside0.mk hr0_1;have HC0_1 := Aside0.mk hc0_1;clear hr0_1 hc0_1;have HB := Aside0.mk (Below.refl w.heap.size w);have H : ((impl_in.f (l0_0.length : Int) 1 24).bind fun t111 => (if t111 = true then (impl_ArenaOk.l0 k 0 l0_0 (l0_0.length : Int) 0 l0_0 l0_1) else (some false))) = some r := h;clear h;replace H := bO_ H;obtain ⟨t111, A2, H⟩ := H;have HC3 := Aside0.mk H;clear H
 go_enter Try.func43, Try.ntmps43
 go_upto_if 12 with (first | ((with_reducible refine gate_dst (N := 1) rfl ?_); refine box_event ?hg (N := 1) ?hd (cs := #[.slice A0_0 l0_0.length c0_0, .slice A0_1 l0_1.length c0_1]) (t := 27) ?hr ?_; (case hd => rfl); (case hg => rfl); (case hr => first | (go_simp; done) | (go_simp; rfl)); intro gb110 hg w4 hbox hb; have qB_ := bS_ (bw HB.out) hb; replace HB := Aside0.mk (qB_.2); have BK110 := Aside0.mk (hbox); have GW110 := Aside0.mk ((by rw [hg]; exact qB_.1 : w.heap.size ≤ gb110)); have GE110 := GW110; clear qB_; clear hb hbox hg; obtain ⟨hcz5_0, hcz5_1, hfz5_0, hfz5_1⟩ := cs2_ BK110.out) | ((with_reducible refine gate_callee (f := 44) rfl ?_); refine goesL_ (some 11) rfl rfl Try.func44 (by kernel_rfl) rfl #[.int .i64 (l0_0.length : Int), .int .i64 1, .int .i64 24] rfl gl ?_; (with_reducible refine (impl_in.calls (l0_0.length : Int) 1 24 t111 _ A2.out).mono ?_); rintro e w' ⟨rfl, ⟨nd, rfl⟩⟩; refine ⟨_, rfl, ?_⟩))
 (try simp only [Act.put, sx_, sy_, sz_])
 have H := HC3.out;clear HC3
 by_cases c6 : t111 = true
 ·subst c6
  rw [if_pos rfl] at H;have H' := Aside0.mk H;clear H;obtain ⟨hcz7_0, hcz7_1, hfz7_0, hfz7_1⟩ := cs2_ BK110.out;go_wp2
  go_loopg [3, 16] k (fun kq v3 v16 w' => ∃ (x3_1 : Int) (x16_1 : Int), v3 = .int .i64 x3_1 ∧ v16 = .int .i64 x16_1 ∧ Aside0 (impl_ArenaOk.l0 kq x3_1 l0_0 (l0_0.length : Int) x16_1 l0_0 l0_1 = some r) ∧ Aside0 (kq ≤ k) ∧ Aside0 (w'.heap[gb110]? = some (.cells #[(.slice A0_0 l0_0.length c0_0), (.slice A0_1 l0_1.length c0_1)] 27 (0, 0))) ∧ Aside0 (Below w.heap.size w w'))
  case atStart => exact ⟨(0), (0), (by first | rfl | (simp; done) | (simp [*]; done)), (by first | rfl | (simp; done) | (simp [*]; done)), H', ⟨Nat.le_refl _⟩, ⟨bk BK110.out⟩, ⟨bw1 HB.out GE110.out⟩⟩
  case round =>
   clear H';(try clear p2); (try clear c4); (try clear c6); (try clear hcz5_0 hcz5_1); (try clear hcz7_0 hcz7_1); (try clear hfz5_0 hfz5_1); (try clear hfz7_0 hfz7_1)
   obtain ⟨x3_1, x16_1, rfl, rfl, HA, HK1, BK110, HB⟩ := hrel;cases gk with
   | zero => exact absurd HA.out (by simp [impl_ArenaOk.l0])
   | succ k1 =>
    have H := HA.out;clear HA;simp only [impl_ArenaOk.l0] at H
    by_cases c8 : x16_1 < (l0_0.length : Int)
    ·rw [if_pos c8] at H
     have c8b0 : decide (x16_1 < (l0_0.length : Int)) = true := decide_eq_true c8;clear c8;(first | rw [c8b0] | (simp only [i64_w, i32_w]; rw [c8b0]) | skip)
     by_cases c9 : 0 ≤ x16_1
     ·rw [if_pos c9] at H
      have c9b0 : decide (0 ≤ x16_1) = true := decide_eq_true c9;clear c9
      by_cases c10 : x16_1 < (l0_0.length : Int)
      ·rw [if_pos c10] at H
       have c10b0 : decide (x16_1 < (l0_0.length : Int)) = true := decide_eq_true c10;clear c10;obtain ⟨bq11, hbq11⟩ : ∃ b_ : Bool, b_ = ((rd_T77 l0_0 x16_1).f1) := ⟨_, rfl⟩;replace H : ((impl_in.f ((rd_T77 l0_0 x16_1).f0) 0 5).bind fun t114 => (if t114 = true then (if (bq11 = true) then ((impl_areValues.f k1 ([(rd_T77 l0_0 x16_1).f2.f0, (rd_T77 l0_0 x16_1).f2.f1, (rd_T77 l0_0 x16_1).f2.f2])).bind fun t119 => (impl_ArenaOk.j1 k1 x3_1 l0_0 (l0_0.length : Int) x16_1 (!t119) l0_0 l0_1 ((rd_T77 l0_0 x16_1).f0) bq11 ((rd_T77 l0_0 x16_1).f2.f0) ((rd_T77 l0_0 x16_1).f2.f1) ((rd_T77 l0_0 x16_1).f2.f2))) else (if ((rd_T77 l0_0 x16_1).f0) = 5 then (impl_ArenaOk.j1 k1 x3_1 l0_0 (l0_0.length : Int) x16_1 true l0_0 l0_1 ((rd_T77 l0_0 x16_1).f0) bq11 ((rd_T77 l0_0 x16_1).f2.f0) ((rd_T77 l0_0 x16_1).f2.f1) ((rd_T77 l0_0 x16_1).f2.f2)) else ((impl_areValues.f k1 ([(rd_T77 l0_0 x16_1).f2.f0, (rd_T77 l0_0 x16_1).f2.f1, (rd_T77 l0_0 x16_1).f2.f2])).bind fun t124 => (impl_ArenaOk.j1 k1 x3_1 l0_0 (l0_0.length : Int) x16_1 (!t124) l0_0 l0_1 ((rd_T77 l0_0 x16_1).f0) bq11 ((rd_T77 l0_0 x16_1).f2.f0) ((rd_T77 l0_0 x16_1).f2.f1) ((rd_T77 l0_0 x16_1).f2.f2))))) else (impl_ArenaOk.j1 k1 x3_1 l0_0 (l0_0.length : Int) x16_1 true l0_0 l0_1 ((rd_T77 l0_0 x16_1).f0) bq11 ((rd_T77 l0_0 x16_1).f2.f0) ((rd_T77 l0_0 x16_1).f2.f1) ((rd_T77 l0_0 x16_1).f2.f2)))) = some r := by first | (rw [← hbq11] at H; exact H) | exact H
       have Nbq11 := Aside0.mk hbq11;clear hbq11;have HC12 := Aside0.mk H;clear H;have p112 : 0 ≤ (x16_1 : Int) := oa;have q112 : x16_1 < (l0_0.length : Int) := oa;obtain ⟨ad112, e112, hx112_0, hx112_1, hx112_2, hx112_3, hx112_4⟩ := at_T77 HR0_0.out x16_1 p112 q112
       (try rw [← Nbq11.out] at hx112_1)
       cases e112;replace hx112_0 := (HB.out.cell (World.block_lt_of_cell? w _ hx112_0)).trans hx112_0;replace hx112_1 := (HB.out.cell (World.block_lt_of_cell? w _ hx112_1)).trans hx112_1;replace hx112_2 := (HB.out.cell (World.block_lt_of_cell? w _ hx112_2)).trans hx112_2;replace hx112_3 := (HB.out.cell (World.block_lt_of_cell? w _ hx112_3)).trans hx112_3;replace hx112_4 := (HB.out.cell (World.block_lt_of_cell? w _ hx112_4)).trans hx112_4;replace p112 := eq_true p112;replace q112 := eq_true q112
       go_upto_region 7 with (first | ((with_reducible refine gate_dst (N := 5) rfl ?_); refine box_event ?hg (N := 5) ?hd (cs := #[.int .i64 0, .bool false, .int .i64 0, .int .i64 0, .int .i64 0]) (t := 77) ?hr ?_; (case hd => rfl); (case hg => rfl); (case hr => first | (go_simp; done) | (go_simp; rfl)); intro gb113 hg w13 hbox hb; have qB_ := bS_ (bw1 HB.out GE110.out) hb; replace HB := Aside0.mk (qB_.2); have BK113 := Aside0.mk (hbox); have GW113 := Aside0.mk ((by rw [hg]; exact qB_.1 : w.heap.size ≤ gb113)); have GE113 := GW113; have NB110_113 := Aside0.mk ((by rw [hg]; exact Nat.ne_of_lt (bL BK110.out) : gb110 ≠ gb113)); have NB113_110 := Aside0.mk ((by rw [hg]; exact Nat.ne_of_gt (bL BK110.out) : gb113 ≠ gb110)); replace BK110 := Aside0.mk (bB BK110.out hb); clear qB_; clear hb hbox hg; have hnb14 := NB113_110.out; have hnc14 := NB110_113.out; obtain ⟨hcz15_0, hcz15_1, hcz15_2, hcz15_3, hcz15_4, hfz15_0, hfz15_1, hfz15_2, hfz15_3, hfz15_4⟩ := cs5_ BK113.out) | ((with_reducible refine gate_store (t := 77) (p := 5) rfl ?_); refine store_event (t := 77) (p := 5) (v := ?vo_w16) (w1 := (((((w13.setCell ⟨gb113, 0, none⟩ (.int .i64 ((rd_T77 l0_0 x16_1).f0))).setCell ⟨gb113, 1, none⟩ (.bool bq11)).setCell ⟨gb113, 2, none⟩ (.int .i64 ((rd_T77 l0_0 x16_1).f2.f0))).setCell ⟨gb113, 3, none⟩ (.int .i64 ((rd_T77 l0_0 x16_1).f2.f1))).setCell ⟨gb113, 4, none⟩ (.int .i64 ((rd_T77 l0_0 x16_1).f2.f2)))) ?hg ?ho ?hn ?hr ?_; (case ho => rfl); (case hg => rfl); (case hn => rfl); (case hr => first | (go_simp; done) | (go_simp; rfl)); intro w16 hw; replace BK110 : Aside0 (w16.heap[gb110]? = some (.cells #[.slice (some ad112) l0_0.length c0_0, .slice A0_1 l0_1.length c0_1] 27 (0, 0))) := ⟨(by rw [hw]; exact (by (with_reducible repeat (first | refine blk_drewN ?_ _ | refine blk_drew ?_ | refine blk_alloc ?_ _)); refine blk_far ?_ NB110_113.out _; refine blk_far ?_ NB110_113.out _; refine blk_far ?_ NB110_113.out _; refine blk_far ?_ NB110_113.out _; refine blk_far ?_ NB110_113.out _; (with_reducible repeat (first | refine blk_drewN ?_ _ | refine blk_drew ?_ | refine blk_alloc ?_ _)); exact BK110.out))⟩; replace BK113 : Aside0 (w16.heap[gb113]? = some (.cells #[.int .i64 ((rd_T77 l0_0 x16_1).f0), .bool bq11, .int .i64 ((rd_T77 l0_0 x16_1).f2.f0), .int .i64 ((rd_T77 l0_0 x16_1).f2.f1), .int .i64 ((rd_T77 l0_0 x16_1).f2.f2)] 77 (0, 0))) := ⟨(by rw [hw]; exact (by (with_reducible repeat (first | refine blk_drewN ?_ _ | refine blk_drew ?_ | refine blk_alloc ?_ _)); refine blk_put (cs := #[.int .i64 ((rd_T77 l0_0 x16_1).f0), .bool bq11, .int .i64 ((rd_T77 l0_0 x16_1).f2.f0), .int .i64 ((rd_T77 l0_0 x16_1).f2.f1), .int .i64 0]) ?_ 4 _ rfl; refine blk_put (cs := #[.int .i64 ((rd_T77 l0_0 x16_1).f0), .bool bq11, .int .i64 ((rd_T77 l0_0 x16_1).f2.f0), .int .i64 0, .int .i64 0]) ?_ 3 _ rfl; refine blk_put (cs := #[.int .i64 ((rd_T77 l0_0 x16_1).f0), .bool bq11, .int .i64 0, .int .i64 0, .int .i64 0]) ?_ 2 _ rfl; refine blk_put (cs := #[.int .i64 ((rd_T77 l0_0 x16_1).f0), .bool false, .int .i64 0, .int .i64 0, .int .i64 0]) ?_ 1 _ rfl; refine blk_put (cs := #[.int .i64 0, .bool false, .int .i64 0, .int .i64 0, .int .i64 0]) ?_ 0 _ rfl; (with_reducible repeat (first | refine blk_drewN ?_ _ | refine blk_drew ?_ | refine blk_alloc ?_ _)); exact BK113.out))⟩; replace HB : Aside0 (Below w.heap.size w w16) := ⟨(by rw [hw]; exact (bw2 HB.out GE110.out GE113.out))⟩; clear hw))
       (try simp only [Act.put, sx_, sy_, sz_])
       go_cut [39] (fun v39 wc => ∃ (kq : Nat) (x39_11 : Bool), v39 = .bool x39_11 ∧ Aside0 (impl_ArenaOk.j1 kq x3_1 l0_0 (l0_0.length : Int) x16_1 x39_11 l0_0 l0_1 ((rd_T77 l0_0 x16_1).f0) bq11 ((rd_T77 l0_0 x16_1).f2.f0) ((rd_T77 l0_0 x16_1).f2.f1) ((rd_T77 l0_0 x16_1).f2.f2) = some r) ∧ Aside0 (kq ≤ k1) ∧ Aside0 (wc.heap[gb110]? = some (.cells #[(.slice (some ad112) l0_0.length c0_0), (.slice A0_1 l0_1.length c0_1)] 27 (0, 0))) ∧ Aside0 (wc.heap[gb113]? = some (.cells #[.int .i64 ((rd_T77 l0_0 x16_1).f0), .bool bq11, .int .i64 ((rd_T77 l0_0 x16_1).f2.f0), .int .i64 ((rd_T77 l0_0 x16_1).f2.f1), .int .i64 ((rd_T77 l0_0 x16_1).f2.f2)] 77 (0, 0))) ∧ Aside0 (Below w.heap.size w wc))
       case first =>
        have H := HC12.out;clear HC12;replace H := bO_ H;obtain ⟨t114, A17, H⟩ := H
        by_cases c18 : t114 = true
        ·subst c18
         rw [if_pos rfl] at H
         by_cases c19 : (bq11 = true)
         ·subst c19
          rw [if_pos rfl] at H;obtain ⟨y115, hy115⟩ : ∃ y_ : List Int, y_ = ([(rd_T77 l0_0 x16_1).f2.f0, (rd_T77 l0_0 x16_1).f2.f1, (rd_T77 l0_0 x16_1).f2.f2]) := ⟨_, rfl⟩;replace H : ((impl_areValues.f k1 y115).bind fun t119 => (impl_ArenaOk.j1 k1 x3_1 l0_0 (l0_0.length : Int) x16_1 (!t119) l0_0 l0_1 ((rd_T77 l0_0 x16_1).f0) true ((rd_T77 l0_0 x16_1).f2.f0) ((rd_T77 l0_0 x16_1).f2.f1) ((rd_T77 l0_0 x16_1).f2.f2))) = some r := by first | (rw [hy115]; with_reducible exact H) | (have H2_ := (Option.bind_some _ _).symm.trans H; rw [hy115]; with_reducible exact H2_) | (have H2_ := (Option.bind_some _ _).symm.trans H; with_reducible exact H2_) | with_reducible exact H | (rw [hy115]; exact H) | exact H
          have Ny115 := Aside0.mk hy115;clear hy115;replace H := bO_ H;obtain ⟨t119, A20, H⟩ := H;have H' := Aside0.mk H;clear H;have hnb21 := NB113_110.out;have hnc21 := NB110_113.out;obtain ⟨hcz22_0, hcz22_1, hcz22_2, hcz22_3, hcz22_4, hfz22_0, hfz22_1, hfz22_2, hfz22_3, hfz22_4⟩ := cs5_ BK113.out
          go_wp2_with (first | ((with_reducible refine gate_callee (f := 44) rfl ?_); refine goesL_ (some 22) rfl rfl Try.func44 (by kernel_rfl) rfl #[.int .i64 ((rd_T77 l0_0 x16_1).f0), .int .i64 0, .int .i64 5] rfl gl ?_; (with_reducible refine (impl_in.calls ((rd_T77 l0_0 x16_1).f0) 0 5 true _ A17.out).mono ?_); rintro e w' ⟨rfl, ⟨nd, rfl⟩⟩; refine ⟨_, rfl, ?_⟩; obtain ⟨i023, hi023, _, hsz23, _⟩ := info_parts info3; have hcut23 := Go.Proofs.Ytemdjfiimgjiaaa.Opn.cut_arr (P := Try.prog) 75 3 3 Try.underlying75 hi023 gb113 2; have hy23 : y115.length = 3 := (by rw [Ny115.out]; rfl); have HR118 := Aside0.mk (show Kd.C (Kd.int .i64) w16 (some ⟨gb113, 2, none⟩) y115.length y115 from (by rw [Ny115.out]; exact (Go.Proofs.Ytemdjfiimgjiaaa.Opn.C_cons_ ((blk_cell BK113.out 2).trans rfl) (Go.Proofs.Ytemdjfiimgjiaaa.Opn.C_cons_ ((blk_cell BK113.out 3).trans rfl) (Go.Proofs.Ytemdjfiimgjiaaa.Opn.C_cons_ ((blk_cell BK113.out 4).trans rfl) (Go.Proofs.Ytemdjfiimgjiaaa.Opn.C_nil_ _ _ _ _)))))); have HC118 := Aside0.mk (show y115.length ≤ 3 from Nat.le_of_eq hy23); replace hcut23 := Go.Proofs.Ytemdjfiimgjiaaa.Opn.cut_len hy23 hcut23; clear hi023 hsz23 hy23) | (go_at_call 82; (with_reducible refine (impl_areValues.calls k1 _ _ y115 t119 _ ?side1 ?side2 A20.out).mono ?_); (case side1 => repeat (first | exact (by repeat (first | (with_reducible exact HR118.out) | (with_reducible refine Kd.C_alloc ?_ _) | (with_reducible refine Kd.C_drewN ?_ _) | (with_reducible refine Kd.C_drew ?_) | exact HR118.out)) | (with_reducible refine Kd.C_alloc ?_ _) | (with_reducible refine Kd.C_drewN ?_ _) | (with_reducible refine Kd.C_drew ?_))); (case side2 => exact HC118.out); rintro e w' ⟨rfl, ⟨nd, rfl⟩⟩))
          go_meet
          case rel => exact ⟨_, (!t119), (by first | rfl | (simp; done) | (simp [*]; done)), H', ⟨by have := HK1.out; first | omega | exact Nat.le_refl _⟩, ⟨bk BK110.out⟩, ⟨bk BK113.out⟩, ⟨bw2 HB.out GE110.out GE113.out⟩⟩
         ·replace c19 := Bool.eq_false_iff.mpr c19
          subst c19;rw [if_neg (show ¬ (false = true) by decide)] at H
          by_cases c24 : ((rd_T77 l0_0 x16_1).f0) = 5
          ·rw [if_pos c24] at H
           have c24b0 : (((rd_T77 l0_0 x16_1).f0) == 5) = true := beq_iff_eq.mpr c24;have c24b1 : (((rd_T77 l0_0 x16_1).f0) != 5) = false := bne_eq_false_iff_eq.mpr c24;clear c24;(first | rw [c24b0] | (simp only [i64_w, i32_w]; rw [c24b0]) | skip)
           have H' := Aside0.mk H;clear H;have hnb25 := NB113_110.out;have hnc25 := NB110_113.out;obtain ⟨hcz26_0, hcz26_1, hcz26_2, hcz26_3, hcz26_4, hfz26_0, hfz26_1, hfz26_2, hfz26_3, hfz26_4⟩ := cs5_ BK113.out
           go_wp2_with (first | ((with_reducible refine gate_callee (f := 44) rfl ?_); refine goesL_ (some 22) rfl rfl Try.func44 (by kernel_rfl) rfl #[.int .i64 ((rd_T77 l0_0 x16_1).f0), .int .i64 0, .int .i64 5] rfl gl ?_; (with_reducible refine (impl_in.calls ((rd_T77 l0_0 x16_1).f0) 0 5 true _ A17.out).mono ?_); rintro e w' ⟨rfl, ⟨nd, rfl⟩⟩; refine ⟨_, rfl, ?_⟩))
           go_meet
           case rel => exact ⟨_, (true), (by first | rfl | (simp; done) | (simp [*]; done)), H', ⟨by have := HK1.out; first | omega | exact Nat.le_refl _⟩, ⟨bk BK110.out⟩, ⟨bk BK113.out⟩, ⟨bw2 HB.out GE110.out GE113.out⟩⟩
          ·rw [if_neg c24] at H
           have c24b0 : (((rd_T77 l0_0 x16_1).f0) == 5) = false := beq_eq_false_iff_ne.mpr c24;have c24b1 : (((rd_T77 l0_0 x16_1).f0) != 5) = true := bne_iff_ne.mpr c24;(first | rw [c24b0] | (simp only [i64_w, i32_w]; rw [c24b0]) | skip)
           obtain ⟨y120, hy120⟩ : ∃ y_ : List Int, y_ = ([(rd_T77 l0_0 x16_1).f2.f0, (rd_T77 l0_0 x16_1).f2.f1, (rd_T77 l0_0 x16_1).f2.f2]) := ⟨_, rfl⟩;replace H : ((impl_areValues.f k1 y120).bind fun t124 => (impl_ArenaOk.j1 k1 x3_1 l0_0 (l0_0.length : Int) x16_1 (!t124) l0_0 l0_1 ((rd_T77 l0_0 x16_1).f0) false ((rd_T77 l0_0 x16_1).f2.f0) ((rd_T77 l0_0 x16_1).f2.f1) ((rd_T77 l0_0 x16_1).f2.f2))) = some r := by first | (rw [hy120]; with_reducible exact H) | (have H2_ := (Option.bind_some _ _).symm.trans H; rw [hy120]; with_reducible exact H2_) | (have H2_ := (Option.bind_some _ _).symm.trans H; with_reducible exact H2_) | with_reducible exact H | (rw [hy120]; exact H) | exact H
           have Ny120 := Aside0.mk hy120;clear hy120;replace H := bO_ H;obtain ⟨t124, A27, H⟩ := H;have H' := Aside0.mk H;clear H;have hnb28 := NB113_110.out;have hnc28 := NB110_113.out;obtain ⟨hcz29_0, hcz29_1, hcz29_2, hcz29_3, hcz29_4, hfz29_0, hfz29_1, hfz29_2, hfz29_3, hfz29_4⟩ := cs5_ BK113.out
           go_wp2_with (first | ((with_reducible refine gate_callee (f := 44) rfl ?_); refine goesL_ (some 22) rfl rfl Try.func44 (by kernel_rfl) rfl #[.int .i64 ((rd_T77 l0_0 x16_1).f0), .int .i64 0, .int .i64 5] rfl gl ?_; (with_reducible refine (impl_in.calls ((rd_T77 l0_0 x16_1).f0) 0 5 true _ A17.out).mono ?_); rintro e w' ⟨rfl, ⟨nd, rfl⟩⟩; refine ⟨_, rfl, ?_⟩; obtain ⟨i030, hi030, _, hsz30, _⟩ := info_parts info3; have hcut30 := Go.Proofs.Ytemdjfiimgjiaaa.Opn.cut_arr (P := Try.prog) 75 3 3 Try.underlying75 hi030 gb113 2; have hy30 : y120.length = 3 := (by rw [Ny120.out]; rfl); have HR123 := Aside0.mk (show Kd.C (Kd.int .i64) w16 (some ⟨gb113, 2, none⟩) y120.length y120 from (by rw [Ny120.out]; exact (Go.Proofs.Ytemdjfiimgjiaaa.Opn.C_cons_ ((blk_cell BK113.out 2).trans rfl) (Go.Proofs.Ytemdjfiimgjiaaa.Opn.C_cons_ ((blk_cell BK113.out 3).trans rfl) (Go.Proofs.Ytemdjfiimgjiaaa.Opn.C_cons_ ((blk_cell BK113.out 4).trans rfl) (Go.Proofs.Ytemdjfiimgjiaaa.Opn.C_nil_ _ _ _ _)))))); have HC123 := Aside0.mk (show y120.length ≤ 3 from Nat.le_of_eq hy30); replace hcut30 := Go.Proofs.Ytemdjfiimgjiaaa.Opn.cut_len hy30 hcut30; clear hi030 hsz30 hy30) | (go_at_call 82; (with_reducible refine (impl_areValues.calls k1 _ _ y120 t124 _ ?side1 ?side2 A27.out).mono ?_); (case side1 => repeat (first | exact (by repeat (first | (with_reducible exact HR123.out) | (with_reducible refine Kd.C_alloc ?_ _) | (with_reducible refine Kd.C_drewN ?_ _) | (with_reducible refine Kd.C_drew ?_) | exact HR123.out)) | (with_reducible refine Kd.C_alloc ?_ _) | (with_reducible refine Kd.C_drewN ?_ _) | (with_reducible refine Kd.C_drew ?_))); (case side2 => exact HC123.out); rintro e w' ⟨rfl, ⟨nd, rfl⟩⟩))
           go_meet
           case rel => exact ⟨_, (!t124), (by first | rfl | (simp; done) | (simp [*]; done)), H', ⟨by have := HK1.out; first | omega | exact Nat.le_refl _⟩, ⟨bk BK110.out⟩, ⟨bk BK113.out⟩, ⟨bw2 HB.out GE110.out GE113.out⟩⟩
        ·replace c18 := Bool.eq_false_iff.mpr c18
         subst c18;rw [if_neg (show ¬ (false = true) by decide)] at H;have H' := Aside0.mk H;clear H;have hnb31 := NB113_110.out;have hnc31 := NB110_113.out;obtain ⟨hcz32_0, hcz32_1, hcz32_2, hcz32_3, hcz32_4, hfz32_0, hfz32_1, hfz32_2, hfz32_3, hfz32_4⟩ := cs5_ BK113.out
         go_wp2_with (first | ((with_reducible refine gate_callee (f := 44) rfl ?_); refine goesL_ (some 22) rfl rfl Try.func44 (by kernel_rfl) rfl #[.int .i64 ((rd_T77 l0_0 x16_1).f0), .int .i64 0, .int .i64 5] rfl gl ?_; (with_reducible refine (impl_in.calls ((rd_T77 l0_0 x16_1).f0) 0 5 false _ A17.out).mono ?_); rintro e w' ⟨rfl, ⟨nd, rfl⟩⟩; refine ⟨_, rfl, ?_⟩))
         go_meet
         case rel => exact ⟨_, (true), (by first | rfl | (simp; done) | (simp [*]; done)), H', ⟨by have := HK1.out; first | omega | exact Nat.le_refl _⟩, ⟨bk BK110.out⟩, ⟨bk BK113.out⟩, ⟨bw2 HB.out GE110.out GE113.out⟩⟩
       case rest =>
        clear HC12;(try clear c1); (try clear p1); (try clear q1); (try clear hx1); (try clear c2); (try clear p2); (try clear c3); (try clear c4); (try clear c6); (try clear c8); (try clear c8b0); (try clear c9); (try clear c9b0); (try clear c10); (try clear c10b0); (try clear p11); (try clear q11); (try clear hx11); (try clear c14); (try clear c18); (try clear c19); (try clear c21); (try clear c24); (try clear c24b0); (try clear c24b1); (try clear c25); (try clear c28); (try clear c31); (try clear hcz15_0 hcz15_1 hcz15_2 hcz15_3 hcz15_4); (try clear hcz22_0 hcz22_1 hcz22_2 hcz22_3 hcz22_4); (try clear hcz26_0 hcz26_1 hcz26_2 hcz26_3 hcz26_4); (try clear hcz29_0 hcz29_1 hcz29_2 hcz29_3 hcz29_4); (try clear hcz32_0 hcz32_1 hcz32_2 hcz32_3 hcz32_4); (try clear hcz5_0 hcz5_1); (try clear hcz7_0 hcz7_1); (try clear hfz15_0 hfz15_1 hfz15_2 hfz15_3 hfz15_4); (try clear hfz22_0 hfz22_1 hfz22_2 hfz22_3 hfz22_4); (try clear hfz26_0 hfz26_1 hfz26_2 hfz26_3 hfz26_4); (try clear hfz29_0 hfz29_1 hfz29_2 hfz29_3 hfz29_4); (try clear hfz32_0 hfz32_1 hfz32_2 hfz32_3 hfz32_4); (try clear hfz5_0 hfz5_1); (try clear hfz7_0 hfz7_1); (try clear hx112_0 hx112_1 hx112_2 hx112_3 hx112_4); (try clear p112); (try clear p2); (try clear q112)
        obtain ⟨kq, x39_11, rfl, HA, HJ11, BK110, BK113, HB⟩ := hcut;cases kq with
        | zero => exact absurd HA.out (by simp [impl_ArenaOk.j1])
        | succ kj11 =>
         have H := HA.out;clear HA;simp only [impl_ArenaOk.j1] at H
         by_cases c33 : x39_11 = true
         ·subst c33
          rw [if_pos rfl] at H;obtain rfl := Option.some.inj H;go_wp2
          go_ret
          exact ⟨er, bw2 HB.out GE110.out GE113.out⟩
         ·replace c33 := Bool.eq_false_iff.mpr c33
          subst c33;rw [if_neg (show ¬ (false = true) by decide)] at H;replace H := bO_ H;obtain ⟨t125, A34, H⟩ := H;have HC35 := Aside0.mk H;clear H;have hnb36 := NB113_110.out;have hnc36 := NB110_113.out;obtain ⟨hcz37_0, hcz37_1, hcz37_2, hcz37_3, hcz37_4, hfz37_0, hfz37_1, hfz37_2, hfz37_3, hfz37_4⟩ := cs5_ BK113.out
          go_upto_if 41 with (first | ((with_reducible refine gate_callee (f := 81) rfl ?_); refine goesL_ (some 41) rfl rfl Try.func81 (by kernel_rfl) rfl #[.agg #[.int .i64 ((rd_T77 l0_0 x16_1).f0), .bool bq11, .int .i64 ((rd_T77 l0_0 x16_1).f2.f0), .int .i64 ((rd_T77 l0_0 x16_1).f2.f1), .int .i64 ((rd_T77 l0_0 x16_1).f2.f2)]] rfl gl ?_; (with_reducible refine (impl_isListed.calls ((rd_T77 l0_0 x16_1).f0) bq11 ((rd_T77 l0_0 x16_1).f2.f0) ((rd_T77 l0_0 x16_1).f2.f1) ((rd_T77 l0_0 x16_1).f2.f2) t125 _ A34.out).mono ?_); rintro e w38 ⟨rfl, hb⟩; refine ⟨_, rfl, ?_⟩; replace BK110 := Aside0.mk (bB BK110.out hb); replace BK113 := Aside0.mk (bB BK113.out hb); replace HB := Aside0.mk (below_step (bw2 HB.out GE110.out GE113.out) hb); clear hb))
          (try simp only [Act.put, sx_, sy_, sz_])
          have H := HC35.out;clear HC35
          by_cases c39 : t125 = true
          ·subst c39
           rw [if_pos rfl] at H;have H' := Aside0.mk H;clear H;go_wp2
           go_roundg kj11
           case measure => have := HK1.out; have := HJ11.out; omega
           case rel => exact ⟨(wrap64 (x3_1 + 1)), (wrap64 (x16_1 + 1)), (by first | rfl | (simp; done) | (simp [*]; done)), (by first | rfl | (simp; done) | (simp [*]; done)), H', ⟨by have := HK1.out; have := HJ11.out; omega⟩, ⟨bk BK110.out⟩, ⟨bw2 HB.out GE110.out GE113.out⟩⟩
          ·replace c39 := Bool.eq_false_iff.mpr c39
           subst c39;rw [if_neg (show ¬ (false = true) by decide)] at H;have H' := Aside0.mk H;clear H;go_wp2
           go_roundg kj11
           case measure => have := HK1.out; have := HJ11.out; omega
           case rel => exact ⟨(x3_1), (wrap64 (x16_1 + 1)), (by first | rfl | (simp; done) | (simp [*]; done)), (by first | rfl | (simp; done) | (simp [*]; done)), H', ⟨by have := HK1.out; have := HJ11.out; omega⟩, ⟨bk BK110.out⟩, ⟨bw2 HB.out GE110.out GE113.out⟩⟩
      ·rw [if_neg c10] at H
       exact absurd H (by simp)
     ·rw [if_neg c9] at H
      exact absurd H (by simp)
    ·rw [if_neg c8] at H
     have c8b0 : decide (x16_1 < (l0_0.length : Int)) = false := decide_eq_false c8;clear c8;(first | rw [c8b0] | (simp only [i64_w, i32_w]; rw [c8b0]) | skip)
     have H' := Aside0.mk H;clear H;obtain ⟨hcz40_0, hcz40_1, hfz40_0, hfz40_1⟩ := cs2_ BK110.out;go_wp2
     go_loopg [48] k1 (fun kq v48 w' => ∃ (x48_2 : Int), v48 = .int .i64 x48_2 ∧ Aside0 (impl_ArenaOk.l1 kq x3_1 l0_1 (l0_1.length : Int) x48_2 l0_0 l0_1 = some r) ∧ Aside0 (kq ≤ k1) ∧ Aside0 (w'.heap[gb110]? = some (.cells #[(.slice A0_0 l0_0.length c0_0), (.slice A0_1 l0_1.length c0_1)] 27 (0, 0))) ∧ Aside0 (Below w.heap.size w w'))
     case atStart => exact ⟨(0), (by first | rfl | (simp; done) | (simp [*]; done)), H', ⟨Nat.le_refl _⟩, ⟨bk BK110.out⟩, ⟨bw1 HB.out GE110.out⟩⟩
     case round =>
      clear H';(try clear c1); (try clear p1); (try clear q1); (try clear hx1); (try clear c2); (try clear p2); (try clear c3); (try clear c4); (try clear c6); (try clear p6); (try clear c8); (try clear c8b0); (try clear c9); (try clear c9b0); (try clear c10); (try clear c10b0); (try clear p11); (try clear q11); (try clear hx11); (try clear c14); (try clear c18); (try clear c19); (try clear c21); (try clear c24); (try clear c24b0); (try clear c24b1); (try clear c25); (try clear c28); (try clear c31); (try clear c33); (try clear c36); (try clear c39); (try clear hcz15_0 hcz15_1 hcz15_2 hcz15_3 hcz15_4); (try clear hcz22_0 hcz22_1 hcz22_2 hcz22_3 hcz22_4); (try clear hcz26_0 hcz26_1 hcz26_2 hcz26_3 hcz26_4); (try clear hcz29_0 hcz29_1 hcz29_2 hcz29_3 hcz29_4); (try clear hcz32_0 hcz32_1 hcz32_2 hcz32_3 hcz32_4); (try clear hcz37_0 hcz37_1 hcz37_2 hcz37_3 hcz37_4); (try clear hcz40_0 hcz40_1); (try clear hcz5_0 hcz5_1); (try clear hcz7_0 hcz7_1); (try clear hfz15_0 hfz15_1 hfz15_2 hfz15_3 hfz15_4); (try clear hfz22_0 hfz22_1 hfz22_2 hfz22_3 hfz22_4); (try clear hfz26_0 hfz26_1 hfz26_2 hfz26_3 hfz26_4); (try clear hfz29_0 hfz29_1 hfz29_2 hfz29_3 hfz29_4); (try clear hfz32_0 hfz32_1 hfz32_2 hfz32_3 hfz32_4); (try clear hfz37_0 hfz37_1 hfz37_2 hfz37_3 hfz37_4); (try clear hfz40_0 hfz40_1); (try clear hfz5_0 hfz5_1); (try clear hfz7_0 hfz7_1); (try clear hx112_0 hx112_1 hx112_2 hx112_3 hx112_4); (try clear p1); (try clear p11); (try clear p112); (try clear p2); (try clear q1); (try clear q11); (try clear q112)
      obtain ⟨x48_2, rfl, HA, HK2, BK110, HB⟩ := hrel;cases gk with
      | zero => exact absurd HA.out (by simp [impl_ArenaOk.l1])
      | succ k2 =>
       have H := HA.out;clear HA;simp only [impl_ArenaOk.l1] at H
       by_cases c41 : x48_2 < (l0_1.length : Int)
       ·rw [if_pos c41] at H
        have c41b0 : decide (x48_2 < (l0_1.length : Int)) = true := decide_eq_true c41;clear c41
        by_cases c42 : 0 ≤ x48_2
        ·rw [if_pos c42] at H
         have c42b0 : decide (0 ≤ x48_2) = true := decide_eq_true c42;clear c42
         by_cases c43 : x48_2 < (l0_1.length : Int)
         ·rw [if_pos c43] at H
          have c43b0 : decide (x48_2 < (l0_1.length : Int)) = true := decide_eq_true c43;clear c43;replace H := bO_ H;obtain ⟨t127, A44, H⟩ := H
          by_cases c45 : t127 = true
          ·subst c45
           rw [if_pos rfl] at H
           by_cases c46 : 0 ≤ (rd l0_1 x48_2)
           ·rw [if_pos c46] at H
            have c46b0 : decide (0 ≤ (rd l0_1 x48_2)) = true := decide_eq_true c46;clear c46
            by_cases c47 : (rd l0_1 x48_2) < (l0_0.length : Int)
            ·rw [if_pos c47] at H
             have c47b0 : decide ((rd l0_1 x48_2) < (l0_0.length : Int)) = true := decide_eq_true c47;clear c47;replace H := bO_ H;obtain ⟨t129, A48, H⟩ := H
             by_cases c49 : t129 = true
             ·subst c49
              rw [if_pos rfl] at H;have c50b0 := eq_true (oa : 0 ≤ x48_2)
              by_cases c51 : x48_2 ≤ (l0_1.length : Int)
              ·rw [if_pos c51] at H
               have c51b0 := eq_true c51;have c51b1 : decide (x48_2 ≤ (l0_1.length : Int)) = true := decide_eq_true c51;clear c51;replace H := bO_ H;obtain ⟨t131, A52, H⟩ := H;have HC53 := Aside0.mk H;clear H;have p126 : 0 ≤ (x48_2 : Int) := oa;have q126 : x48_2 < (l0_1.length : Int) := oa;obtain ⟨ad126, e126, hx126_0⟩ := Kd.at_int HR0_1.out x48_2 p126 q126;cases e126;replace hx126_0 := (HB.out.cell (World.block_lt_of_cell? w _ hx126_0)).trans hx126_0;replace p126 := eq_true p126;replace q126 := eq_true q126;obtain ⟨hcz54_0, hcz54_1, hfz54_0, hfz54_1⟩ := cs2_ BK110.out
               go_upto_if 76 with (first | ((with_reducible refine gate_callee (f := 44) rfl ?_); refine goesL_ (some 58) rfl rfl Try.func44 (by kernel_rfl) rfl #[.int .i64 (rd l0_1 x48_2), .int .i64 0, .int .i64 (wrap64 ((l0_0.length : Int) - 1))] rfl gl ?_; (with_reducible refine (impl_in.calls (rd l0_1 x48_2) 0 (wrap64 ((l0_0.length : Int) - 1)) true _ A44.out).mono ?_); rintro e w' ⟨rfl, ⟨nd, rfl⟩⟩; refine ⟨_, rfl, ?_⟩; have p128 : 0 ≤ ((rd l0_1 x48_2) : Int) := oa; have q128 : (rd l0_1 x48_2) < (l0_0.length : Int) := oa; obtain ⟨ad128, e128, hx128_0, hx128_1, hx128_2, hx128_3, hx128_4⟩ := at_T77 HR0_0.out (rd l0_1 x48_2) p128 q128; cases e128; replace hx128_0 := (HB.out.cell (World.block_lt_of_cell? w _ hx128_0)).trans hx128_0; replace hx128_1 := (HB.out.cell (World.block_lt_of_cell? w _ hx128_1)).trans hx128_1; replace hx128_2 := (HB.out.cell (World.block_lt_of_cell? w _ hx128_2)).trans hx128_2; replace hx128_3 := (HB.out.cell (World.block_lt_of_cell? w _ hx128_3)).trans hx128_3; replace hx128_4 := (HB.out.cell (World.block_lt_of_cell? w _ hx128_4)).trans hx128_4; replace p128 := eq_true p128; replace q128 := eq_true q128) | (go_at_call 81; (with_reducible refine (impl_isListed.calls ((rd_T77 l0_0 (rd l0_1 x48_2)).f0) ((rd_T77 l0_0 (rd l0_1 x48_2)).f1) ((rd_T77 l0_0 (rd l0_1 x48_2)).f2.f0) ((rd_T77 l0_0 (rd l0_1 x48_2)).f2.f1) ((rd_T77 l0_0 (rd l0_1 x48_2)).f2.f2) true _ A48.out).mono ?_); rintro e w55 ⟨rfl, hb⟩; replace BK110 := Aside0.mk (bB BK110.out hb); replace HB := Aside0.mk (below_step (bw1 HB.out GE110.out) hb); clear hb; obtain ⟨hcz56_0, hcz56_1, hfz56_0, hfz56_1⟩ := cs2_ BK110.out; obtain ⟨i057, hi057, _, hsz57, _⟩ := info_parts info3; obtain ⟨hcut57, hA57, hC57⟩ := print_take_of (P := Try.prog) (Value.int .i64) 0 25 3 .i64 Try.underlying25 hi057 hsz57 (some ad126) c0_1 l0_1 x48_2 (oa) (oa) HC0_1.out; have HR130 := Aside0.mk (Kd.C_of_reads (h1 := fun _ => rfl) (hA57 _ (Kd.reads_of_C HR0_1.out))); have HC130 := Aside0.mk hC57; clear hA57 hC57 hi057 hsz57) | (go_at_call 83; (first | (refine calls_of_args (args' := #[.slice (some ad126) (l0_1.take (x48_2 : Int).toNat).length c0_1, .int .i64 (rd l0_1 x48_2)]) (by first | (rw [show (l0_1.take (x48_2 : Int).toNat).length = x48_2.toNat from (by rw [List.length_take]; have h_ : (x48_2 : Int) ≤ (l0_1.length : Int) := oa; omega)] <;> rfl) | rfl) ?_) | skip); (with_reducible refine (slices_Contains_int_int.calls k2 _ _ (l0_1.take (x48_2 : Int).toNat) (rd l0_1 x48_2) t131 _ ?side1 ?side2 A52.out).mono ?_); (case side1 => exact ck (Kd.C_below HR130.out HB.out)); (case side2 => exact HC130.out); rintro e w' ⟨rfl, ⟨nd, rfl⟩⟩))
               (try simp only [Act.put, sx_, sy_, sz_])
               have H := HC53.out;clear HC53
               by_cases c58 : t131 = true
               ·subst c58
                rw [if_pos rfl] at H;obtain rfl := Option.some.inj H;go_wp2
                go_ret
                exact ⟨er, bw1 HB.out GE110.out⟩
               ·replace c58 := Bool.eq_false_iff.mpr c58
                subst c58;rw [if_neg (show ¬ (false = true) by decide)] at H;have H' := Aside0.mk H;clear H;go_wp2
                go_roundg k2
                case measure => have := HK1.out; have := HK2.out; omega
                case rel => exact ⟨(wrap64 (x48_2 + 1)), (by first | rfl | (simp; done) | (simp [*]; done)), H', ⟨by have := HK1.out; have := HK2.out; omega⟩, ⟨bk BK110.out⟩, ⟨bw1 HB.out GE110.out⟩⟩
              ·rw [if_neg c51] at H
               exact absurd H (by simp)
             ·replace c49 := Bool.eq_false_iff.mpr c49
              subst c49;rw [if_neg (show ¬ (false = true) by decide)] at H;obtain rfl := Option.some.inj H;have p126 : 0 ≤ (x48_2 : Int) := oa;have q126 : x48_2 < (l0_1.length : Int) := oa;obtain ⟨ad126, e126, hx126_0⟩ := Kd.at_int HR0_1.out x48_2 p126 q126;cases e126;replace hx126_0 := (HB.out.cell (World.block_lt_of_cell? w _ hx126_0)).trans hx126_0;replace p126 := eq_true p126;replace q126 := eq_true q126;obtain ⟨hcz59_0, hcz59_1, hfz59_0, hfz59_1⟩ := cs2_ BK110.out
              go_wp2_with (first | ((with_reducible refine gate_callee (f := 44) rfl ?_); refine goesL_ (some 58) rfl rfl Try.func44 (by kernel_rfl) rfl #[.int .i64 (rd l0_1 x48_2), .int .i64 0, .int .i64 (wrap64 ((l0_0.length : Int) - 1))] rfl gl ?_; (with_reducible refine (impl_in.calls (rd l0_1 x48_2) 0 (wrap64 ((l0_0.length : Int) - 1)) true _ A44.out).mono ?_); rintro e w' ⟨rfl, ⟨nd, rfl⟩⟩; refine ⟨_, rfl, ?_⟩; have p128 : 0 ≤ ((rd l0_1 x48_2) : Int) := oa; have q128 : (rd l0_1 x48_2) < (l0_0.length : Int) := oa; obtain ⟨ad128, e128, hx128_0, hx128_1, hx128_2, hx128_3, hx128_4⟩ := at_T77 HR0_0.out (rd l0_1 x48_2) p128 q128; cases e128; replace hx128_0 := (HB.out.cell (World.block_lt_of_cell? w _ hx128_0)).trans hx128_0; replace hx128_1 := (HB.out.cell (World.block_lt_of_cell? w _ hx128_1)).trans hx128_1; replace hx128_2 := (HB.out.cell (World.block_lt_of_cell? w _ hx128_2)).trans hx128_2; replace hx128_3 := (HB.out.cell (World.block_lt_of_cell? w _ hx128_3)).trans hx128_3; replace hx128_4 := (HB.out.cell (World.block_lt_of_cell? w _ hx128_4)).trans hx128_4; replace p128 := eq_true p128; replace q128 := eq_true q128) | (go_at_call 81; (with_reducible refine (impl_isListed.calls ((rd_T77 l0_0 (rd l0_1 x48_2)).f0) ((rd_T77 l0_0 (rd l0_1 x48_2)).f1) ((rd_T77 l0_0 (rd l0_1 x48_2)).f2.f0) ((rd_T77 l0_0 (rd l0_1 x48_2)).f2.f1) ((rd_T77 l0_0 (rd l0_1 x48_2)).f2.f2) false _ A48.out).mono ?_); rintro e w60 ⟨rfl, hb⟩; replace BK110 := Aside0.mk (bB BK110.out hb); replace HB := Aside0.mk (below_step (bw1 HB.out GE110.out) hb); clear hb))
              go_ret
              exact ⟨er, bw1 HB.out GE110.out⟩
            ·rw [if_neg c47] at H
             exact absurd H (by simp)
           ·rw [if_neg c46] at H
            exact absurd H (by simp)
          ·replace c45 := Bool.eq_false_iff.mpr c45
           subst c45;rw [if_neg (show ¬ (false = true) by decide)] at H;obtain rfl := Option.some.inj H;have p126 : 0 ≤ (x48_2 : Int) := oa;have q126 : x48_2 < (l0_1.length : Int) := oa;obtain ⟨ad126, e126, hx126_0⟩ := Kd.at_int HR0_1.out x48_2 p126 q126;cases e126;replace hx126_0 := (HB.out.cell (World.block_lt_of_cell? w _ hx126_0)).trans hx126_0;replace p126 := eq_true p126;replace q126 := eq_true q126;obtain ⟨hcz61_0, hcz61_1, hfz61_0, hfz61_1⟩ := cs2_ BK110.out
           go_wp2_with (first | ((with_reducible refine gate_callee (f := 44) rfl ?_); refine goesL_ (some 58) rfl rfl Try.func44 (by kernel_rfl) rfl #[.int .i64 (rd l0_1 x48_2), .int .i64 0, .int .i64 (wrap64 ((l0_0.length : Int) - 1))] rfl gl ?_; (with_reducible refine (impl_in.calls (rd l0_1 x48_2) 0 (wrap64 ((l0_0.length : Int) - 1)) false _ A44.out).mono ?_); rintro e w' ⟨rfl, ⟨nd, rfl⟩⟩; refine ⟨_, rfl, ?_⟩))
           go_ret
           exact ⟨er, bw1 HB.out GE110.out⟩
         ·rw [if_neg c43] at H
          exact absurd H (by simp)
        ·rw [if_neg c42] at H
         exact absurd H (by simp)
       ·rw [if_neg c41] at H
        have c41b0 : decide (x48_2 < (l0_1.length : Int)) = false := decide_eq_false c41;clear c41;obtain rfl := Option.some.inj H;obtain ⟨hcz62_0, hcz62_1, hfz62_0, hfz62_1⟩ := cs2_ BK110.out;go_wp2
        go_ret
        exact ⟨er, bw1 HB.out GE110.out⟩
 ·replace c6 := Bool.eq_false_iff.mpr c6
  subst c6;rw [if_neg (show ¬ (false = true) by decide)] at H;obtain rfl := Option.some.inj H;go_wp2
  go_ret
  exact ⟨er, bw1 HB.out GE110.out⟩


end Go.Proofs.Ytemdjfiimgjiaaa.S
namespace Go.Proofs.Ytemdjfiimgjiaaa.S
open Go.Proofs.Ytemdjfiimgjiaaa.Sq
open Go.RowKit Go.Proofs.YtemdjfiimgjiaaaW.PrintWords Go.Proofs.YtemdjfiimgjiaaaW.PrintLast Go.Proofs.YtemdjfiimgjiaaaW.PrintMore
attribute [local go_sem] max2_int min2_int max_two min_two max_three min_three max_four min_four   -- for this text's walks alone
set_option linter.unusedVariables false
set_option linter.unusedSimpArgs false

def impl_Live.f (k : Nat) (l0_0 : List (S77)) (l0_1 : List Int) (a1 : Int) : Option (Bool) := (impl_ArenaOk.f k l0_0 l0_1).bind fun t133 => (if t133 = true then ((impl_in.f a1 0 (wrap64 ((wrap64 (8 * (l0_0.length : Int))) - 1))).bind fun t134 => (if t134 = true then (if 0 ≤ (wrap64 (Int.tdiv a1 8)) then (if (wrap64 (Int.tdiv a1 8)) < (l0_0.length : Int) then (if ((rd_T77 l0_0 (wrap64 (Int.tdiv a1 8))).f1 = true) then (some false) else (some (((rd_T77 l0_0 (wrap64 (Int.tdiv a1 8))).f0) == (Int.tmod a1 8)))) else (none)) else (none)) else (some false))) else (some false))
set_option maxHeartbeats 8000000 in
set_option maxRecDepth 100000 in
theorem impl_Live.calls (k : Nat) (A0_0 : Option Addr) (c0_0 : Nat) (l0_0 : List (S77)) (A0_1 : Option Addr) (c0_1 : Nat) (l0_1 : List Int) (a1 : Int) (r : Bool) (w : World) (hr0_0 : Kd.C k77 w A0_0 l0_0.length l0_0) (hc0_0 : l0_0.length ≤ c0_0) (hr0_1 : Kd.C (Kd.int .i64) w A0_1 l0_1.length l0_1) (hc0_1 : l0_1.length ≤ c0_1) (h : impl_Live.f k l0_0 l0_1 a1 = some r) :
  Calls Try.prog 19 #[.agg #[.slice A0_0 l0_0.length c0_0, .slice A0_1 l0_1.length c0_1], .int .i64 a1] w fun e w' => e = .returned (.bool r) ∧ Below w.heap.size w w' := by
 have hu27 := Try.underlying27;have hu77 := Try.underlying77;have HR0_0 := Aside0.mk hr0_0;have HC0_0 := Aside0.mk hc0_0;clear hr0_0 hc0_0;have HR0_1 := Aside0.mk hr0_1;have HC0_1 := Aside0.mk hc0_1;clear hr0_1 hc0_1;have HB := Aside0.mk (Below.refl w.heap.size w);have H : ((impl_ArenaOk.f k l0_0 l0_1).bind fun t133 => (if t133 = true then ((impl_in.f a1 0 (wrap64 ((wrap64 (8 * (l0_0.length : Int))) - 1))).bind fun t134 => (if t134 = true then (if 0 ≤ (wrap64 (Int.tdiv a1 8)) then (if (wrap64 (Int.tdiv a1 8)) < (l0_0.length : Int) then (if ((rd_T77 l0_0 (wrap64 (Int.tdiv a1 8))).f1 = true) then (some false) else (some (((rd_T77 l0_0 (wrap64 (Int.tdiv a1 8))).f0) == (Int.tmod a1 8)))) else (none)) else (none)) else (some false))) else (some false))) = some r := h;clear h;replace H := bO_ H;obtain ⟨t133, A3, H⟩ := H
 by_cases c4 : t133 = true
 ·subst c4
  rw [if_pos rfl] at H;replace H := bO_ H;obtain ⟨t134, A5, H⟩ := H;have HC6 := Aside0.mk H;clear H
  go_enter Try.func19, Try.ntmps19
  go_upto_if 18 with (first | ((with_reducible refine gate_dst (N := 2) rfl ?_); (try (refine gate_guard (by rfl) ?_; dsimp only)); refine box_event ?hg (N := 2) ?hd (cs := #[.slice A0_0 l0_0.length c0_0, .slice A0_1 l0_1.length c0_1]) (t := 27) ?hr ?_; (case hd => rfl); (case hg => rfl); (case hr => first | (go_simp; done) | (go_simp; rfl)); intro gb132 hg w7 hbox hb; have qB_ := bS_ (bw HB.out) hb; replace HB := Aside0.mk (qB_.2); have BK132 := Aside0.mk (hbox); have GW132 := Aside0.mk ((by rw [hg]; exact qB_.1 : w.heap.size ≤ gb132)); have GE132 := GW132; clear qB_; clear hb hbox hg; obtain ⟨hcz8_0, hcz8_1, hfz8_0, hfz8_1⟩ := cs2_ BK132.out) | ((with_reducible refine gate_callee (f := 43) rfl ?_); refine goesL_ (some 7) rfl rfl Try.func43 (by kernel_rfl) rfl #[.agg #[.slice A0_0 l0_0.length c0_0, .slice A0_1 l0_1.length c0_1]] rfl gl ?_; (with_reducible refine (impl_ArenaOk.calls k _ _ l0_0 _ _ l0_1 true _ ?side1 ?side2 ?side3 ?side4 A3.out).mono ?_); (case side1 => exact (Kd.C_below HR0_0.out HB.out)); (case side2 => exact HC0_0.out); (case side3 => exact (Kd.C_below HR0_1.out HB.out)); (case side4 => exact HC0_1.out); rintro e w9 ⟨rfl, hb⟩; refine ⟨_, rfl, ?_⟩; replace BK132 := Aside0.mk (blk_below BK132.out hb); replace HB := Aside0.mk (below_step (bw1 HB.out GE132.out) hb); clear hb; obtain ⟨hcz10_0, hcz10_1, hfz10_0, hfz10_1⟩ := cs2_ BK132.out) | (go_at_call 44; (with_reducible refine (impl_in.calls a1 0 (wrap64 ((wrap64 (8 * (l0_0.length : Int))) - 1)) t134 _ A5.out).mono ?_); rintro e w' ⟨rfl, ⟨nd, rfl⟩⟩))
  (try simp only [Act.put, sx_, sy_, sz_])
  have H := HC6.out;clear HC6
  by_cases c11 : t134 = true
  ·subst c11
   rw [if_pos rfl] at H;obtain ⟨ji12, hji12⟩ : ∃ j_ : Int, (wrap64 (Int.tdiv a1 8)) = j_ := ⟨_, rfl⟩;rw [hji12] at H;have hji12w : (IntKind.i64.wrap (Int.tdiv a1 8)) = ji12 := (i64_w _).trans hji12
   by_cases c13 : 0 ≤ (ji12)
   ·rw [if_pos c13] at H
    have c13b0 : decide (0 ≤ (ji12)) = true := decide_eq_true c13;clear c13;(first | rw [c13b0] | (simp only [i64_w, i32_w]; rw [c13b0]) | skip)
    by_cases c14 : (ji12) < (l0_0.length : Int)
    ·rw [if_pos c14] at H
     have c14b0 : decide ((ji12) < (l0_0.length : Int)) = true := decide_eq_true c14;clear c14;obtain ⟨bq15, hbq15⟩ : ∃ b_ : Bool, b_ = ((rd_T77 l0_0 (ji12)).f1) := ⟨_, rfl⟩;rw [← hbq15] at H;have Nbq15 := Aside0.mk hbq15;clear hbq15
     by_cases c16 : (bq15 = true)
     ·subst c16
      rw [if_pos rfl] at H;obtain rfl := Option.some.inj H;obtain ⟨hcz17_0, hcz17_1, hfz17_0, hfz17_1⟩ := cs2_ BK132.out;have p135 : 0 ≤ ((ji12) : Int) := oa;have q135 : (ji12) < (l0_0.length : Int) := oa;obtain ⟨ad135, e135, hx135_0, hx135_1, hx135_2, hx135_3, hx135_4⟩ := at_T77 HR0_0.out (ji12) p135 q135
      (try rw [← Nbq15.out] at hx135_1)
      cases e135;replace hx135_0 := (HB.out.cell (World.block_lt_of_cell? w _ hx135_0)).trans hx135_0;replace hx135_1 := (HB.out.cell (World.block_lt_of_cell? w _ hx135_1)).trans hx135_1;replace hx135_2 := (HB.out.cell (World.block_lt_of_cell? w _ hx135_2)).trans hx135_2;replace hx135_3 := (HB.out.cell (World.block_lt_of_cell? w _ hx135_3)).trans hx135_3;replace hx135_4 := (HB.out.cell (World.block_lt_of_cell? w _ hx135_4)).trans hx135_4;replace p135 := eq_true p135;replace q135 := eq_true q135
      go_wp2_with (first | ((with_reducible refine gate_dst (N := 5) rfl ?_); (try (refine gate_guard (by rfl) ?_; dsimp only)); refine box_event ?hg (N := 5) ?hd (cs := #[.int .i64 0, .bool false, .int .i64 0, .int .i64 0, .int .i64 0]) (t := 77) ?hr ?_; (case hd => rfl); (case hg => rfl); (case hr => first | (go_simp; done) | (go_simp; rfl)); intro gb136 hg w18 hbox hb; have qB_ := bS_ (bw1 HB.out GE132.out) hb; replace HB := Aside0.mk (qB_.2); have BK136 := Aside0.mk (hbox); have GW136 := Aside0.mk ((by rw [hg]; exact qB_.1 : w.heap.size ≤ gb136)); have GE136 := GW136; have NB132_136 := Aside0.mk ((by rw [hg]; exact Nat.ne_of_lt (bL BK132.out) : gb132 ≠ gb136)); have NB136_132 := Aside0.mk ((by rw [hg]; exact Nat.ne_of_gt (bL BK132.out) : gb136 ≠ gb132)); replace BK132 := Aside0.mk (bB BK132.out hb); clear qB_; clear hb hbox hg; have hnb19 := NB136_132.out; have hnc19 := NB132_136.out; obtain ⟨hcz20_0, hcz20_1, hcz20_2, hcz20_3, hcz20_4, hfz20_0, hfz20_1, hfz20_2, hfz20_3, hfz20_4⟩ := cs5_ BK136.out))
      go_ret
      exact ⟨by first | rfl | (simp [errW_none, errW_some] <;> rfl) | (simp only [← hji12]; first | rfl | (simp [errW_none, errW_some] <;> rfl)) | (simp [*, errW_none, errW_some] <;> rfl), bw2 HB.out GE132.out GE136.out⟩
     ·replace c16 := Bool.eq_false_iff.mpr c16
      subst c16;rw [if_neg (show ¬ (false = true) by decide)] at H;obtain rfl := Option.some.inj H;obtain ⟨hcz21_0, hcz21_1, hfz21_0, hfz21_1⟩ := cs2_ BK132.out;have p135 : 0 ≤ ((ji12) : Int) := oa;have q135 : (ji12) < (l0_0.length : Int) := oa;obtain ⟨ad135, e135, hx135_0, hx135_1, hx135_2, hx135_3, hx135_4⟩ := at_T77 HR0_0.out (ji12) p135 q135
      (try rw [← Nbq15.out] at hx135_1)
      cases e135;replace hx135_0 := (HB.out.cell (World.block_lt_of_cell? w _ hx135_0)).trans hx135_0;replace hx135_1 := (HB.out.cell (World.block_lt_of_cell? w _ hx135_1)).trans hx135_1;replace hx135_2 := (HB.out.cell (World.block_lt_of_cell? w _ hx135_2)).trans hx135_2;replace hx135_3 := (HB.out.cell (World.block_lt_of_cell? w _ hx135_3)).trans hx135_3;replace hx135_4 := (HB.out.cell (World.block_lt_of_cell? w _ hx135_4)).trans hx135_4;replace p135 := eq_true p135;replace q135 := eq_true q135
      go_wp2_with (first | ((with_reducible refine gate_dst (N := 5) rfl ?_); (try (refine gate_guard (by rfl) ?_; dsimp only)); refine box_event ?hg (N := 5) ?hd (cs := #[.int .i64 0, .bool false, .int .i64 0, .int .i64 0, .int .i64 0]) (t := 77) ?hr ?_; (case hd => rfl); (case hg => rfl); (case hr => first | (go_simp; done) | (go_simp; rfl)); intro gb136 hg w22 hbox hb; have qB_ := bS_ (bw1 HB.out GE132.out) hb; replace HB := Aside0.mk (qB_.2); have BK136 := Aside0.mk (hbox); have GW136 := Aside0.mk ((by rw [hg]; exact qB_.1 : w.heap.size ≤ gb136)); have GE136 := GW136; have NB132_136 := Aside0.mk ((by rw [hg]; exact Nat.ne_of_lt (bL BK132.out) : gb132 ≠ gb136)); have NB136_132 := Aside0.mk ((by rw [hg]; exact Nat.ne_of_gt (bL BK132.out) : gb136 ≠ gb132)); replace BK132 := Aside0.mk (bB BK132.out hb); clear qB_; clear hb hbox hg; have hnb23 := NB136_132.out; have hnc23 := NB132_136.out; obtain ⟨hcz24_0, hcz24_1, hcz24_2, hcz24_3, hcz24_4, hfz24_0, hfz24_1, hfz24_2, hfz24_3, hfz24_4⟩ := cs5_ BK136.out))
      go_ret
      exact ⟨by first | rfl | (simp [errW_none, errW_some] <;> rfl) | (simp only [← hji12]; first | rfl | (simp [errW_none, errW_some] <;> rfl)) | (simp [*, errW_none, errW_some] <;> rfl), bw2 HB.out GE132.out GE136.out⟩
    ·rw [if_neg c14] at H
     exact absurd H (by simp)
   ·rw [if_neg c13] at H
    exact absurd H (by simp)
  ·replace c11 := Bool.eq_false_iff.mpr c11
   subst c11;rw [if_neg (show ¬ (false = true) by decide)] at H;obtain rfl := Option.some.inj H;go_wp2
   go_ret
   exact ⟨er, bw1 HB.out GE132.out⟩
 ·replace c4 := Bool.eq_false_iff.mpr c4
  subst c4;rw [if_neg (show ¬ (false = true) by decide)] at H;obtain rfl := Option.some.inj H
  go_enter Try.func19, Try.ntmps19
  go_wp2_with (first | ((with_reducible refine gate_dst (N := 2) rfl ?_); (try (refine gate_guard (by rfl) ?_; dsimp only)); refine box_event ?hg (N := 2) ?hd (cs := #[.slice A0_0 l0_0.length c0_0, .slice A0_1 l0_1.length c0_1]) (t := 27) ?hr ?_; (case hd => rfl); (case hg => rfl); (case hr => first | (go_simp; done) | (go_simp; rfl)); intro gb132 hg w25 hbox hb; have qB_ := bS_ (bw HB.out) hb; replace HB := Aside0.mk (qB_.2); have BK132 := Aside0.mk (hbox); have GW132 := Aside0.mk ((by rw [hg]; exact qB_.1 : w.heap.size ≤ gb132)); have GE132 := GW132; clear qB_; clear hb hbox hg; obtain ⟨hcz26_0, hcz26_1, hfz26_0, hfz26_1⟩ := cs2_ BK132.out) | ((with_reducible refine gate_callee (f := 43) rfl ?_); refine goesL_ (some 7) rfl rfl Try.func43 (by kernel_rfl) rfl #[.agg #[.slice A0_0 l0_0.length c0_0, .slice A0_1 l0_1.length c0_1]] rfl gl ?_; (with_reducible refine (impl_ArenaOk.calls k _ _ l0_0 _ _ l0_1 false _ ?side1 ?side2 ?side3 ?side4 A3.out).mono ?_); (case side1 => exact (Kd.C_below HR0_0.out HB.out)); (case side2 => exact HC0_0.out); (case side3 => exact (Kd.C_below HR0_1.out HB.out)); (case side4 => exact HC0_1.out); rintro e w27 ⟨rfl, hb⟩; refine ⟨_, rfl, ?_⟩; replace BK132 := Aside0.mk (blk_below BK132.out hb); replace HB := Aside0.mk (below_step (bw1 HB.out GE132.out) hb); clear hb))
  go_ret
  exact ⟨er, HB.out⟩

-- NOT PRINTED: function 46 (impl_YardOk_1)

-- NOT PRINTED: function 102 (impl_Gone_102)

-- NOT PRINTED: function 85 (impl_Gone_85)

-- NOT PRINTED: function 86 (impl_isRetired_1)

def impl_isRetired_1_c2.f (a0_0 : Int) (a0_1 : Int) (a1 : Int) : Option (Bool) := some (a0_0 == a1)
set_option maxHeartbeats 8000000 in
set_option maxRecDepth 100000 in
theorem impl_isRetired_1_c2.calls (a0_0 : Int) (a0_1 : Int) (a1 : Int) (gx : Nat) (r : Bool) (w : World) (hgx : w.heap[gx]? = some (.cells #[.int .i64 a1] 3 (0, 0))) (h : impl_isRetired_1_c2.f a0_0 a0_1 a1 = some r) :
  Calls Try.prog 86 #[.agg #[.int .i64 a0_0, .int .i64 a0_1], .pointer (some ⟨gx, 0, none⟩)] w fun e w' => e = .returned (.bool r) ∧ Below w.heap.size w w' := by
 have hu41 := Try.underlying41;have HB := Aside0.mk (Below.refl w.heap.size w);have H : (some (a0_0 == a1)) = some r := h;clear h;obtain rfl := Option.some.inj H
 go_enter Try.func86, Try.ntmps86
 go_wp2_with (first | ((with_reducible refine gate_dst (N := 2) rfl ?_); refine box_event ?hg (N := 2) ?hd (cs := #[.int .i64 a0_0, .int .i64 a0_1]) (t := 41) ?hr ?_; (case hd => rfl); (case hg => rfl); (case hr => first | (go_simp; done) | (go_simp; rfl)); intro gb138 hg w3 hbox hb; have n0_ := Aside0.mk (below_step HB.out hb); have BKx := blk_below (g := gx) (o := .cells #[.int .i64 a1] 3 (0, 0)) hgx n0_.out; have hcx : w3.cell? ⟨gx, 0, none⟩ = some (.int .i64 a1) := (blk_cell BKx 0).trans rfl; have hfx := blk_frozen BKx 0; have n1_ := Aside0.mk (hbox); have n2_ := Aside0.mk ((by rw [hg]; exact (below_size HB.out) : w.heap.size ≤ gb138)); have n3_ := n2_; replace HB := n0_; have BK138 := n1_; have GW138 := n2_; have GE138 := n3_; clear n0_ n1_ n2_ n3_; clear hb hbox hg; obtain ⟨hcz4_0, hcz4_1, hfz4_0, hfz4_1⟩ := cs2_ BK138.out))
 go_ret
 exact ⟨er, HB.out⟩

def impl_Gone_F86c900001_102.l0 : Nat → List (S41) → Int → Int → Int → Option (Int)
 | 0, _, _, _, _ => none
 | k + 1, x0, x7, x8, x820 => if x8 < x7 then (if 0 ≤ x8 then (if x8 < (x0.length : Int) then ((impl_isRetired_1_c2.f ((rd_T41 x0 x8).f0) ((rd_T41 x0 x8).f1) x820).bind fun t139 => (if t139 = true then (some x8) else (impl_Gone_F86c900001_102.l0 k x0 x7 (wrap64 (x8 + 1)) x820))) else (none)) else (none)) else (some (-1))
def impl_Gone_F86c900001_102.f (k : Nat) (l0 : List (S41)) (a1_0 : Int) : Option (Int) := impl_Gone_F86c900001_102.l0 k l0 (l0.length : Int) 0 a1_0
set_option maxHeartbeats 8000000 in
set_option maxRecDepth 100000 in
theorem impl_Gone_F86c900001_102.calls (k : Nat) (A0 : Option Addr) (c0 : Nat) (l0 : List (S41)) (a1_0 : Int) (gx : Nat) (r : Int) (w : World) (hr0 : Kd.C k41 w A0 l0.length l0) (hc0 : l0.length ≤ c0) (hgx : w.heap[gx]? = some (.cells #[.int .i64 a1_0] 3 (0, 0))) (h : impl_Gone_F86c900001_102.f k l0 a1_0 = some r) :
  Calls Try.prog 102 #[.slice A0 l0.length c0, .func (.func 86) #[] #[(.pointer (some ⟨gx, 0, none⟩))]] w fun e w' => e = .returned (.int .i64 r) ∧ Below w.heap.size w w' := by
 have hu41 := Try.underlying41;have HR0 := Aside0.mk hr0;have HC0 := Aside0.mk hc0;clear hr0 hc0;have HB := Aside0.mk (Below.refl w.heap.size w);have H : (impl_Gone_F86c900001_102.l0 k l0 (l0.length : Int) 0 a1_0) = some r := h;clear h;have H' := Aside0.mk H;clear H
 go_enter Try.func102, Try.ntmps102
 go_wp2
 go_loopg [8] k (fun kq v8 w' => ∃ (x8_1 : Int), v8 = .int .i64 x8_1 ∧ Aside0 (impl_Gone_F86c900001_102.l0 kq l0 (l0.length : Int) x8_1 a1_0 = some r) ∧ Aside0 (kq ≤ k) ∧ Aside0 (Below w.heap.size w w'))
 case atStart => exact ⟨(0), (by first | rfl | (simp; done) | (simp [*]; done)), H', ⟨Nat.le_refl _⟩, ⟨HB.out⟩⟩
 case round =>
  clear H'
  skip
  obtain ⟨x8_1, rfl, HA, HK1, HB⟩ := hrel;cases gk with
  | zero => exact absurd HA.out (by simp [impl_Gone_F86c900001_102.l0])
  | succ k1 =>
   have H := HA.out;clear HA;simp only [impl_Gone_F86c900001_102.l0] at H
   by_cases c3 : x8_1 < (l0.length : Int)
   ·rw [if_pos c3] at H
    have c3b0 : decide (x8_1 < (l0.length : Int)) = true := decide_eq_true c3;clear c3
    by_cases c4 : 0 ≤ x8_1
    ·rw [if_pos c4] at H
     have c4b0 : decide (0 ≤ x8_1) = true := decide_eq_true c4;clear c4
     by_cases c5 : x8_1 < (l0.length : Int)
     ·rw [if_pos c5] at H
      have c5b0 : decide (x8_1 < (l0.length : Int)) = true := decide_eq_true c5;clear c5;replace H := bO_ H;obtain ⟨t139, A6, H⟩ := H;have HC7 := Aside0.mk H;clear H;have p138 : 0 ≤ (x8_1 : Int) := oa;have q138 : x8_1 < (l0.length : Int) := oa;obtain ⟨ad138, e138, hx138_0, hx138_1⟩ := at_T41 HR0.out x8_1 p138 q138;cases e138;replace hx138_0 := (HB.out.cell (World.block_lt_of_cell? w _ hx138_0)).trans hx138_0;replace hx138_1 := (HB.out.cell (World.block_lt_of_cell? w _ hx138_1)).trans hx138_1;replace p138 := eq_true p138;replace q138 := eq_true q138
      go_upto_if 16 with (first | (go_at_call 86; (with_reducible refine (impl_isRetired_1_c2.calls ((rd_T41 l0 x8_1).f0) ((rd_T41 l0 x8_1).f1) a1_0 gx t139 _ (blk_below (g := gx) (o := .cells #[.int .i64 a1_0] 3 (0, 0)) hgx HB.out) A6.out).mono ?_); rintro e w8 ⟨rfl, hb⟩; replace HB := Aside0.mk (below_step HB.out hb); clear hb))
      (try simp only [Act.put, sx_, sy_, sz_])
      have H := HC7.out;clear HC7
      by_cases c9 : t139 = true
      ·subst c9
       rw [if_pos rfl] at H;obtain rfl := Option.some.inj H;go_wp2
       go_ret
       exact ⟨er, HB.out⟩
      ·replace c9 := Bool.eq_false_iff.mpr c9
       subst c9;rw [if_neg (show ¬ (false = true) by decide)] at H;have H' := Aside0.mk H;clear H;go_wp2
       go_roundg k1
       case measure => have := HK1.out; omega
       case rel => exact ⟨(wrap64 (x8_1 + 1)), (by first | rfl | (simp; done) | (simp [*]; done)), H', ⟨by have := HK1.out; omega⟩, ⟨HB.out⟩⟩
     ·rw [if_neg c5] at H
      exact absurd H (by simp)
    ·rw [if_neg c4] at H
     exact absurd H (by simp)
   ·rw [if_neg c3] at H
    have c3b0 : decide (x8_1 < (l0.length : Int)) = false := decide_eq_false c3;clear c3;obtain rfl := Option.some.inj H;go_wp2
    go_ret
    exact ⟨er, HB.out⟩

def impl_Gone_F86c900001.f (k : Nat) (l0 : List (S41)) (a1_0 : Int) : Option (Bool) := (impl_Gone_F86c900001_102.f k l0 a1_0).bind fun t138 => (some (decide (t138 ≥ 0)))
set_option maxHeartbeats 8000000 in
set_option maxRecDepth 100000 in
theorem impl_Gone_F86c900001.calls (k : Nat) (A0 : Option Addr) (c0 : Nat) (l0 : List (S41)) (a1_0 : Int) (gx : Nat) (r : Bool) (w : World) (hr0 : Kd.C k41 w A0 l0.length l0) (hc0 : l0.length ≤ c0) (hgx : w.heap[gx]? = some (.cells #[.int .i64 a1_0] 3 (0, 0))) (h : impl_Gone_F86c900001.f k l0 a1_0 = some r) :
  Calls Try.prog 85 #[.slice A0 l0.length c0, .func (.func 86) #[] #[(.pointer (some ⟨gx, 0, none⟩))]] w fun e w' => e = .returned (.bool r) ∧ Below w.heap.size w w' := by
 have HR0 := Aside0.mk hr0;have HC0 := Aside0.mk hc0;clear hr0 hc0;have HB := Aside0.mk (Below.refl w.heap.size w);have H : ((impl_Gone_F86c900001_102.f k l0 a1_0).bind fun t138 => (some (decide (t138 ≥ 0)))) = some r := h;clear h;replace H := bO_ H;obtain ⟨t138, A3, H⟩ := H;obtain rfl := Option.some.inj H
 go_enter Try.func85, Try.ntmps85
 go_wp2_with (first | ((with_reducible refine gate_callee (f := 102) rfl ?_); refine goesL_ (some 7) rfl rfl Try.func102 (by kernel_rfl) rfl #[.slice A0 l0.length c0, .func (.func 86) #[] #[(.pointer (some ⟨gx, 0, none⟩))]] rfl gl ?_; (with_reducible refine (impl_Gone_F86c900001_102.calls k _ _ l0 a1_0 gx t138 _ ?side1 ?side2 (blk_below (g := gx) (o := .cells #[.int .i64 a1_0] 3 (0, 0)) hgx (bw HB.out)) A3.out).mono ?_); (case side1 => exact HR0.out); (case side2 => exact HC0.out); rintro e w4 ⟨rfl, hb⟩; refine ⟨_, rfl, ?_⟩; replace HB := Aside0.mk (below_step (bw HB.out) hb); clear hb))
 go_ret
 exact ⟨er, HB.out⟩

def impl_isRetired.f (k : Nat) (l0 : List (S41)) (a1 : Int) : Option (Bool) := (impl_Gone_F86c900001.f k l0 a1).bind fun t138 => (some t138)
set_option maxHeartbeats 8000000 in
set_option maxRecDepth 100000 in
theorem impl_isRetired.calls (k : Nat) (A0 : Option Addr) (c0 : Nat) (l0 : List (S41)) (a1 : Int) (r : Bool) (w : World) (hr0 : Kd.C k41 w A0 l0.length l0) (hc0 : l0.length ≤ c0) (h : impl_isRetired.f k l0 a1 = some r) :
  Calls Try.prog 47 #[.slice A0 l0.length c0, .int .i64 a1] w fun e w' => e = .returned (.bool r) ∧ Below w.heap.size w w' := by
 have HR0 := Aside0.mk hr0;have HC0 := Aside0.mk hc0;clear hr0 hc0;have HB := Aside0.mk (Below.refl w.heap.size w);have H : ((impl_Gone_F86c900001.f k l0 a1).bind fun t138 => (some t138)) = some r := h;clear h;replace H := bO_ H;obtain ⟨t138, A3, H⟩ := H;obtain rfl := Option.some.inj H
 go_enter Try.func47, Try.ntmps47
 go_wp2_with (first | ((with_reducible refine gate_dst (N := 3) rfl ?_); refine box_event ?hg (N := 3) ?hd (cs := #[.int .i64 a1]) (t := 3) ?hr ?_; (case hd => rfl); (case hg => rfl); (case hr => first | (go_simp; done) | (go_simp; rfl)); intro gx hg w900 hbox hb; have n0_ := Aside0.mk (below_step (bw HB.out) hb); have BKx := Aside0.mk hbox; replace HB := n0_; clear n0_; clear hb hbox hg) | ((with_reducible refine gate_callee (f := 85) rfl ?_); refine goesL_ (some 7) rfl rfl Try.func85 (by kernel_rfl) rfl #[.slice A0 l0.length c0, .func (.func 86) #[] #[(.pointer (some ⟨gx, 0, none⟩))]] rfl gl ?_; (with_reducible refine (impl_Gone_F86c900001.calls k _ _ l0 a1 gx t138 _ ?side1 ?side2 ?sidex A3.out).mono ?_); (case sidex => exact BKx.out); (case side1 => repeat (first | exact (Kd.C_below HR0.out HB.out) | exact HR0.out | (with_reducible refine Kd.C_alloc ?_ _) | (with_reducible refine Kd.C_drewN ?_ _) | (with_reducible refine Kd.C_drew ?_))); (case side2 => exact HC0.out); rintro e w4 ⟨rfl, hb⟩; refine ⟨_, rfl, ?_⟩; replace HB := Aside0.mk (below_step (bw HB.out) hb); clear hb))
 go_ret
 exact ⟨er, HB.out⟩

def impl_YardOk_1_c2.f (a0 : Int) (a1 : Int) : Option (Bool) := (impl_in.f a0 (-1) a1).bind fun t139 => (some (!t139))
set_option maxHeartbeats 8000000 in
set_option maxRecDepth 100000 in
theorem impl_YardOk_1_c2.calls (a0 : Int) (a1 : Int) (gx : Nat) (cv0 cv1 cv2 cv3 : Value) (r : Bool) (w : World) (hgx : w.heap[gx]? = some (.cells #[cv0, cv1, cv2, cv3, .int .i64 a1] 30 (0, 0))) (h : impl_YardOk_1_c2.f a0 a1 = some r) :
  Calls Try.prog 46 #[.int .i64 a0, .pointer (some ⟨gx, 0, none⟩)] w fun e w' => e = .returned (.bool r) ∧ Drawn0 w w' := by
 have H : ((impl_in.f a0 (-1) a1).bind fun t139 => (some (!t139))) = some r := h;clear h;replace H := bO_ H;obtain ⟨t139, A3, H⟩ := H;obtain rfl := Option.some.inj H;have hcx : w.cell? ⟨gx, 4, none⟩ = some (.int .i64 a1) := (blk_cell hgx 4).trans rfl;have hfx := blk_frozen hgx 4;have hu30 := Try.underlying30
 go_enter Try.func46, Try.ntmps46
 go_wp2_with (first | ((with_reducible refine gate_callee (f := 44) rfl ?_); refine goesL_ (some 7) rfl rfl Try.func44 (by kernel_rfl) rfl #[.int .i64 a0, .int .i64 (-1), .int .i64 a1] rfl gl ?_; (with_reducible refine (impl_in.calls a0 (-1) a1 t139 _ A3.out).mono ?_); rintro e w' ⟨rfl, ⟨nd, rfl⟩⟩; refine ⟨_, rfl, ?_⟩))
 go_ret
 exact ⟨by first | rfl | (simp; done) | (simp [*]; done), by repeat (first | exact Drawn0.refl _ | apply Drawn0.step)⟩

def slices_IndexFunc_int_int_F46c900002.l0 : Nat → List Int → Int → Int → Int → Option (Int)
 | 0, _, _, _, _ => none
 | k + 1, x0, x7, x8, x820 => if x8 < x7 then (if 0 ≤ x8 then (if x8 < (x0.length : Int) then ((impl_YardOk_1_c2.f (rd x0 x8) x820).bind fun t141 => (if t141 = true then (some x8) else (slices_IndexFunc_int_int_F46c900002.l0 k x0 x7 (wrap64 (x8 + 1)) x820))) else (none)) else (none)) else (some (-1))
def slices_IndexFunc_int_int_F46c900002.f (k : Nat) (l0 : List Int) (a1_0 : Int) : Option (Int) := slices_IndexFunc_int_int_F46c900002.l0 k l0 (l0.length : Int) 0 a1_0
set_option maxHeartbeats 8000000 in
set_option maxRecDepth 100000 in
theorem slices_IndexFunc_int_int_F46c900002.calls (k : Nat) (A0 : Option Addr) (c0 : Nat) (l0 : List Int) (a1_0 : Int) (gx : Nat) (cv0 cv1 cv2 cv3 : Value) (r : Int) (w : World) (hr0 : Kd.C (Kd.int .i64) w A0 l0.length l0) (hc0 : l0.length ≤ c0) (hgx : w.heap[gx]? = some (.cells #[cv0, cv1, cv2, cv3, .int .i64 a1_0] 30 (0, 0))) (h : slices_IndexFunc_int_int_F46c900002.f k l0 a1_0 = some r) :
  Calls Try.prog 84 #[.slice A0 l0.length c0, .func (.func 46) #[] #[(.pointer (some ⟨gx, 0, none⟩))]] w fun e w' => e = .returned (.int .i64 r) ∧ Drawn0 w w' := by
 have HR0 := Aside0.mk hr0;have HC0 := Aside0.mk hc0;clear hr0 hc0;have H : (slices_IndexFunc_int_int_F46c900002.l0 k l0 (l0.length : Int) 0 a1_0) = some r := h;clear h;have H' := Aside0.mk H;clear H
 go_enter Try.func84, Try.ntmps84
 go_wp2
 go_loopg [8] k (fun kq v8 w' => ∃ (x8_1 : Int), v8 = .int .i64 x8_1 ∧ Aside0 (slices_IndexFunc_int_int_F46c900002.l0 kq l0 (l0.length : Int) x8_1 a1_0 = some r) ∧ Aside0 (kq ≤ k) ∧ Drawn0 w w')
 case atStart => exact ⟨(0), (by first | rfl | (simp; done) | (simp [*]; done)), H', ⟨Nat.le_refl _⟩, by repeat (first | exact Drawn0.refl _ | apply Drawn0.step)⟩
 case round =>
  clear H'
  try clear p2
  obtain ⟨x8_1, rfl, HA, HK1, ⟨m1, rfl⟩⟩ := hrel;cases gk with
  | zero => exact absurd HA.out (by simp [slices_IndexFunc_int_int_F46c900002.l0])
  | succ k1 =>
   have H := HA.out;clear HA;simp only [slices_IndexFunc_int_int_F46c900002.l0] at H
   by_cases c3 : x8_1 < (l0.length : Int)
   ·rw [if_pos c3] at H
    have c3b0 : decide (x8_1 < (l0.length : Int)) = true := decide_eq_true c3;clear c3
    by_cases c4 : 0 ≤ x8_1
    ·rw [if_pos c4] at H
     have c4b0 : decide (0 ≤ x8_1) = true := decide_eq_true c4;clear c4
     by_cases c5 : x8_1 < (l0.length : Int)
     ·rw [if_pos c5] at H
      have c5b0 : decide (x8_1 < (l0.length : Int)) = true := decide_eq_true c5;clear c5;replace H := bO_ H;obtain ⟨t141, A6, H⟩ := H;have HC7 := Aside0.mk H;clear H;have p140 : 0 ≤ (x8_1 : Int) := oa;have q140 : x8_1 < (l0.length : Int) := oa;obtain ⟨ad140, e140, hx140_0⟩ := Kd.at_int HR0.out x8_1 p140 q140;cases e140;replace p140 := eq_true p140;replace q140 := eq_true q140
      go_upto_if 16 with (first | (go_at_call 46; (with_reducible refine (impl_YardOk_1_c2.calls (rd l0 x8_1) a1_0 gx cv0 cv1 cv2 cv3 t141 _ (bk hgx) A6.out).mono ?_); rintro e w' ⟨rfl, ⟨nd, rfl⟩⟩))
      (try simp only [Act.put, sx_, sy_, sz_])
      have H := HC7.out;clear HC7
      by_cases c8 : t141 = true
      ·subst c8
       rw [if_pos rfl] at H;obtain rfl := Option.some.inj H;go_wp2
       go_ret
       exact ⟨by first | rfl | (simp; done) | (simp [*]; done), by repeat (first | exact Drawn0.refl _ | apply Drawn0.step)⟩
      ·replace c8 := Bool.eq_false_iff.mpr c8
       subst c8;rw [if_neg (show ¬ (false = true) by decide)] at H;have H' := Aside0.mk H;clear H;go_wp2
       go_roundg k1
       case measure => have := HK1.out; omega
       case rel => exact ⟨(wrap64 (x8_1 + 1)), (by first | rfl | (simp; done) | (simp [*]; done)), H', ⟨by have := HK1.out; omega⟩, by repeat (first | exact Drawn0.refl _ | apply Drawn0.step)⟩
     ·rw [if_neg c5] at H
      exact absurd H (by simp)
    ·rw [if_neg c4] at H
     exact absurd H (by simp)
   ·rw [if_neg c3] at H
    have c3b0 : decide (x8_1 < (l0.length : Int)) = false := decide_eq_false c3;clear c3;obtain rfl := Option.some.inj H;go_wp2
    go_ret
    exact ⟨by first | rfl | (simp; done) | (simp [*]; done), by repeat (first | exact Drawn0.refl _ | apply Drawn0.step)⟩

def slices_ContainsFunc_int_int_F46c900002.f (k : Nat) (l0 : List Int) (a1_0 : Int) : Option (Bool) := (slices_IndexFunc_int_int_F46c900002.f k l0 a1_0).bind fun t142 => (some (decide (t142 ≥ 0)))
set_option maxHeartbeats 8000000 in
set_option maxRecDepth 100000 in
theorem slices_ContainsFunc_int_int_F46c900002.calls (k : Nat) (A0 : Option Addr) (c0 : Nat) (l0 : List Int) (a1_0 : Int) (gx : Nat) (cv0 cv1 cv2 cv3 : Value) (r : Bool) (w : World) (hr0 : Kd.C (Kd.int .i64) w A0 l0.length l0) (hc0 : l0.length ≤ c0) (hgx : w.heap[gx]? = some (.cells #[cv0, cv1, cv2, cv3, .int .i64 a1_0] 30 (0, 0))) (h : slices_ContainsFunc_int_int_F46c900002.f k l0 a1_0 = some r) :
  Calls Try.prog 45 #[.slice A0 l0.length c0, .func (.func 46) #[] #[(.pointer (some ⟨gx, 0, none⟩))]] w fun e w' => e = .returned (.bool r) ∧ Drawn0 w w' := by
 have HR0 := Aside0.mk hr0;have HC0 := Aside0.mk hc0;clear hr0 hc0;have H : ((slices_IndexFunc_int_int_F46c900002.f k l0 a1_0).bind fun t142 => (some (decide (t142 ≥ 0)))) = some r := h;clear h;replace H := bO_ H;obtain ⟨t142, A3, H⟩ := H;obtain rfl := Option.some.inj H
 go_enter Try.func45, Try.ntmps45
 go_wp2_with (first | ((with_reducible refine gate_callee (f := 84) rfl ?_); refine goesL_ (some 7) rfl rfl Try.func84 (by kernel_rfl) rfl #[.slice A0 l0.length c0, .func (.func 46) #[] #[(.pointer (some ⟨gx, 0, none⟩))]] rfl gl ?_; (with_reducible refine (slices_IndexFunc_int_int_F46c900002.calls k _ _ l0 a1_0 gx cv0 cv1 cv2 cv3 t142 _ ?side1 ?side2 (bk hgx) A3.out).mono ?_); (case side1 => exact HR0.out); (case side2 => exact HC0.out); rintro e w' ⟨rfl, ⟨nd, rfl⟩⟩; refine ⟨_, rfl, ?_⟩))
 go_ret
 exact ⟨by first | rfl | (simp; done) | (simp [*]; done), by repeat (first | exact Drawn0.refl _ | apply Drawn0.step)⟩


end Go.Proofs.Ytemdjfiimgjiaaa.S
namespace Go.Proofs.Ytemdjfiimgjiaaa.S
open Go.Proofs.Ytemdjfiimgjiaaa.Sq
open Go.RowKit Go.Proofs.YtemdjfiimgjiaaaW.PrintWords Go.Proofs.YtemdjfiimgjiaaaW.PrintLast Go.Proofs.YtemdjfiimgjiaaaW.PrintMore
attribute [local go_sem] max2_int min2_int max_two min_two max_three min_three max_four min_four   -- for this text's walks alone
set_option linter.unusedVariables false
set_option linter.unusedSimpArgs false

mutual
def impl_YardOk.j0 : Nat → Bool → List (S77) → List Int → List Int → List (S41) → Int → Option (Bool)
 | 0, _, _, _, _, _, _ => none
 | k + 1, x28, x144000, x144001, x144002, x144003, x144004 => if x28 = true then (some false) else ((slices_ContainsFunc_int_int_F46c900002.f k x144002 x144004).bind fun t147 => (if t147 = true then (some false) else (impl_YardOk.l0 k 0 x144003 (x144003.length : Int) 0 x144000 x144001 x144002 x144003 x144004)))
def impl_YardOk.l0 : Nat → Int → List (S41) → Int → Int → List (S77) → List Int → List Int → List (S41) → Int → Option (Bool)
 | 0, _, _, _, _, _, _, _, _, _ => none
 | k + 1, x3, x34, x35, x36, x144000, x144001, x144002, x144003, x144004 => if x36 < x35 then (if 0 ≤ x36 then (if x36 < (x34.length : Int) then ((impl_in.f ((rd_T41 x34 x36).f1) x3 x144004).bind fun t150 => (if t150 = true then ((impl_Live.f k x144000 x144001 ((rd_T41 x34 x36).f0)).bind fun t151 => (if t151 = true then (if x36 ≤ (x144003.length : Int) then ((impl_isRetired.f k (x144003.take (x36 : Int).toNat) ((rd_T41 x34 x36).f0)).bind fun t156 => (if t156 = true then (some false) else (impl_YardOk.l0 k ((rd_T41 x34 x36).f1) x34 x35 (wrap64 (x36 + 1)) x144000 x144001 x144002 x144003 x144004))) else (none)) else (some false))) else (some false))) else (none)) else (none)) else (some true)
end
def impl_YardOk.f (k : Nat) (l0_0 : List (S77)) (l0_1 : List Int) (l0_2 : List Int) (l0_3 : List (S41)) (a0_4 : Int) : Option (Bool) := (impl_ArenaOk.f k l0_0 l0_1).bind fun t144 => (if t144 = true then ((impl_in.f (l0_2.length : Int) 1 6).bind fun t145 => (if t145 = true then ((impl_in.f a0_4 0 1000000).bind fun t146 => (if t146 = true then (impl_YardOk.j0 k (decide ((l0_3.length : Int) > 24)) l0_0 l0_1 l0_2 l0_3 a0_4) else (impl_YardOk.j0 k true l0_0 l0_1 l0_2 l0_3 a0_4))) else (impl_YardOk.j0 k true l0_0 l0_1 l0_2 l0_3 a0_4))) else (impl_YardOk.j0 k true l0_0 l0_1 l0_2 l0_3 a0_4))
def impl_YardOk.T9 : Bool × List (List Nat × List Nat) := (true, [([], []), ([0], [0]), ([], []), ([], []), ([3], [3]), ([1, 2, 4], [1, 2, 4]), ([5], [5]), ([6, 5], [6]), ([7], [7]), ([8, 7], [7, 8]), ([7], [7]), ([10, 7], [7, 10]), ([9, 11, 7, 7], [7, 9, 11]), ([12, 7], [7, 12]), ([7, 13], [7, 13]), ([14, 12], [14]), ([15], [15]), ([16, 15], [15, 16]), ([15], [15]), ([17, 18, 15], [15, 17, 18]), ([15], [15]), ([20, 15], [15, 20]), ([19, 21, 15, 15], [15, 19, 21]), ([15, 22], [15, 22])])
def impl_YardOk.B9 : List Nat := [0, 1, 0, 0, 8, 31, 63, 127, 255, 511, 255, 1279, 4095, 8191, 16383, 32767, 65535, 131071, 65535, 524287, 65535, 1114111, 4194303, 8388607]
theorem impl_YardOk.tab9 : rtab .any (opsOf Try.f16 9) = impl_YardOk.T9 := by kernel_rfl
theorem impl_YardOk.bits9 : waitsOk impl_YardOk.T9.2 impl_YardOk.B9 = true := by kernel_rfl
abbrev impl_YardOk.bt0_ : Array Bool := #[F_,F_,F_,F_,F_,F_,F_,F_,F_,F_,F_,F_,F_,F_,F_,F_,F_,F_,F_,F_,F_,F_,F_,F_]
abbrev impl_YardOk.bt1_ : Array Bool := #[T_,F_,F_,F_,F_,F_,F_,F_,F_,F_,F_,F_,F_,F_,F_,F_,F_,F_,F_,F_,F_,F_,F_,F_]
abbrev impl_YardOk.bt2_ : Array Bool := #[T_,F_,T_,F_,F_,F_,F_,F_,F_,F_,F_,F_,F_,F_,F_,F_,F_,F_,F_,F_,F_,F_,F_,F_]
abbrev impl_YardOk.bt3_ : Array Bool := #[T_,F_,T_,T_,F_,F_,F_,F_,F_,F_,F_,F_,F_,F_,F_,F_,F_,F_,F_,F_,F_,F_,F_,F_]
abbrev impl_YardOk.bt4_ : Array Bool := #[T_,T_,T_,T_,F_,F_,F_,F_,F_,F_,F_,F_,F_,F_,F_,F_,F_,F_,F_,F_,F_,F_,F_,F_]
abbrev impl_YardOk.bt5_ : Array Bool := #[T_,T_,T_,T_,T_,F_,F_,F_,F_,F_,F_,F_,F_,F_,F_,F_,F_,F_,F_,F_,F_,F_,F_,F_]
abbrev impl_YardOk.bt6_ : Array Bool := #[T_,T_,T_,T_,T_,T_,F_,F_,F_,F_,F_,F_,F_,F_,F_,F_,F_,F_,F_,F_,F_,F_,F_,F_]
abbrev impl_YardOk.bt7_ : Array Bool := #[T_,T_,T_,T_,T_,T_,T_,F_,F_,F_,F_,F_,F_,F_,F_,F_,F_,F_,F_,F_,F_,F_,F_,F_]
abbrev impl_YardOk.bt8_ : Array Bool := #[T_,T_,T_,T_,T_,T_,T_,T_,F_,F_,F_,F_,F_,F_,F_,F_,F_,F_,F_,F_,F_,F_,F_,F_]
abbrev impl_YardOk.bt9_ : Array Bool := #[T_,T_,T_,T_,T_,T_,T_,T_,T_,F_,F_,F_,F_,F_,F_,F_,F_,F_,F_,F_,F_,F_,F_,F_]
abbrev impl_YardOk.bt10_ : Array Bool := #[T_,T_,T_,T_,T_,T_,T_,T_,T_,F_,T_,F_,F_,F_,F_,F_,F_,F_,F_,F_,F_,F_,F_,F_]
abbrev impl_YardOk.bt11_ : Array Bool := #[T_,T_,T_,T_,T_,T_,T_,T_,T_,T_,T_,F_,F_,F_,F_,F_,F_,F_,F_,F_,F_,F_,F_,F_]
abbrev impl_YardOk.bt12_ : Array Bool := #[T_,T_,T_,T_,T_,T_,T_,T_,T_,T_,T_,T_,F_,F_,F_,F_,F_,F_,F_,F_,F_,F_,F_,F_]
abbrev impl_YardOk.bt13_ : Array Bool := #[T_,T_,T_,T_,T_,T_,T_,T_,T_,T_,T_,T_,T_,F_,F_,F_,F_,F_,F_,F_,F_,F_,F_,F_]
abbrev impl_YardOk.bt14_ : Array Bool := #[T_,T_,T_,T_,T_,T_,T_,T_,T_,T_,T_,T_,T_,T_,F_,F_,F_,F_,F_,F_,F_,F_,F_,F_]
abbrev impl_YardOk.bt15_ : Array Bool := #[T_,T_,T_,T_,T_,T_,T_,T_,T_,T_,T_,T_,T_,T_,T_,F_,F_,F_,F_,F_,F_,F_,F_,F_]
abbrev impl_YardOk.bt16_ : Array Bool := #[T_,T_,T_,T_,T_,T_,T_,T_,T_,T_,T_,T_,T_,T_,T_,T_,F_,F_,F_,F_,F_,F_,F_,F_]
abbrev impl_YardOk.bt17_ : Array Bool := #[T_,T_,T_,T_,T_,T_,T_,T_,T_,T_,T_,T_,T_,T_,T_,T_,T_,F_,F_,F_,F_,F_,F_,F_]
abbrev impl_YardOk.bt18_ : Array Bool := #[T_,T_,T_,T_,T_,T_,T_,T_,T_,T_,T_,T_,T_,T_,T_,T_,T_,F_,T_,F_,F_,F_,F_,F_]
abbrev impl_YardOk.bt19_ : Array Bool := #[T_,T_,T_,T_,T_,T_,T_,T_,T_,T_,T_,T_,T_,T_,T_,T_,T_,F_,T_,F_,T_,F_,F_,F_]
abbrev impl_YardOk.bt20_ : Array Bool := #[T_,T_,T_,T_,T_,T_,T_,T_,T_,T_,T_,T_,T_,T_,T_,T_,T_,T_,T_,F_,T_,F_,F_,F_]
abbrev impl_YardOk.bt21_ : Array Bool := #[T_,T_,T_,T_,T_,T_,T_,T_,T_,T_,T_,T_,T_,T_,T_,T_,T_,T_,T_,T_,T_,F_,F_,F_]
abbrev impl_YardOk.bt22_ : Array Bool := #[T_,T_,T_,T_,T_,T_,T_,T_,T_,T_,T_,T_,T_,T_,T_,T_,T_,T_,T_,T_,T_,T_,F_,F_]
abbrev impl_YardOk.bt23_ : Array Bool := #[T_,T_,T_,T_,T_,T_,T_,T_,T_,T_,T_,T_,T_,T_,T_,T_,T_,T_,T_,T_,T_,T_,T_,F_]
abbrev impl_YardOk.bt24_ : Array Bool := #[T_,T_,T_,T_,T_,T_,T_,T_,T_,T_,T_,T_,T_,T_,T_,T_,T_,T_,T_,T_,T_,T_,T_,T_]
abbrev impl_YardOk.bt25_ : Array Bool := #[T_,T_,T_,T_,T_,T_,T_,T_,T_,T_,T_,T_,T_,T_,T_,T_,T_,T_,F_,F_,F_,F_,F_,F_]
abbrev impl_YardOk.bt26_ : Array Bool := #[T_,T_,T_,T_,T_,T_,T_,T_,T_,T_,T_,T_,T_,T_,T_,T_,T_,T_,T_,F_,F_,F_,F_,F_]
abbrev impl_YardOk.bt27_ : Array Bool := #[T_,T_,T_,T_,T_,T_,T_,T_,T_,T_,T_,T_,T_,T_,T_,T_,T_,T_,T_,T_,F_,F_,F_,F_]
abbrev impl_YardOk.bt28_ : Array Bool := #[T_,T_,T_,T_,T_,T_,T_,T_,T_,T_,F_,F_,F_,F_,F_,F_,F_,F_,F_,F_,F_,F_,F_,F_]
set_option maxHeartbeats 8000000 in
set_option maxRecDepth 100000 in
theorem impl_YardOk.calls (k : Nat) (A0_0 : Option Addr) (c0_0 : Nat) (l0_0 : List (S77)) (A0_1 : Option Addr) (c0_1 : Nat) (l0_1 : List Int) (A0_2 : Option Addr) (c0_2 : Nat) (l0_2 : List Int) (A0_3 : Option Addr) (c0_3 : Nat) (l0_3 : List (S41)) (a0_4 : Int) (r : Bool) (w : World) (hr0_0 : Kd.C k77 w A0_0 l0_0.length l0_0) (hc0_0 : l0_0.length ≤ c0_0) (hr0_1 : Kd.C (Kd.int .i64) w A0_1 l0_1.length l0_1) (hc0_1 : l0_1.length ≤ c0_1) (hr0_2 : Kd.C (Kd.int .i64) w A0_2 l0_2.length l0_2) (hc0_2 : l0_2.length ≤ c0_2) (hr0_3 : Kd.C k41 w A0_3 l0_3.length l0_3) (hc0_3 : l0_3.length ≤ c0_3) (h : impl_YardOk.f k l0_0 l0_1 l0_2 l0_3 a0_4 = some r) :
  Calls Try.prog 16 #[.agg #[.slice A0_0 l0_0.length c0_0, .slice A0_1 l0_1.length c0_1, .slice A0_2 l0_2.length c0_2, .slice A0_3 l0_3.length c0_3, .int .i64 a0_4]] w fun e w' => e = .returned (.bool r) ∧ Below w.heap.size w w' := by
 have hu30 := Try.underlying30;have hu27 := Try.underlying27;have hu41 := Try.underlying41;have HR0_0 := Aside0.mk hr0_0;have HC0_0 := Aside0.mk hc0_0;clear hr0_0 hc0_0;have HR0_1 := Aside0.mk hr0_1;have HC0_1 := Aside0.mk hc0_1;clear hr0_1 hc0_1;have HR0_2 := Aside0.mk hr0_2;have HC0_2 := Aside0.mk hc0_2;clear hr0_2 hc0_2;have HR0_3 := Aside0.mk hr0_3;have HC0_3 := Aside0.mk hc0_3;clear hr0_3 hc0_3;have HB := Aside0.mk (Below.refl w.heap.size w);have H : ((impl_ArenaOk.f k l0_0 l0_1).bind fun t144 => (if t144 = true then ((impl_in.f (l0_2.length : Int) 1 6).bind fun t145 => (if t145 = true then ((impl_in.f a0_4 0 1000000).bind fun t146 => (if t146 = true then (impl_YardOk.j0 k (decide ((l0_3.length : Int) > 24)) l0_0 l0_1 l0_2 l0_3 a0_4) else (impl_YardOk.j0 k true l0_0 l0_1 l0_2 l0_3 a0_4))) else (impl_YardOk.j0 k true l0_0 l0_1 l0_2 l0_3 a0_4))) else (impl_YardOk.j0 k true l0_0 l0_1 l0_2 l0_3 a0_4))) = some r := h;clear h;have HC2 := Aside0.mk H;clear H
 go_enter Try.func16, Try.ntmps16
 go_upto_region 1 with (first | ((with_reducible refine gate_dst (N := 1) rfl ?_); (try (refine gate_guard (by rfl) ?_; dsimp only)); refine box_event ?hg (N := 1) ?hd (cs := #[.slice A0_0 l0_0.length c0_0, .slice A0_1 l0_1.length c0_1, .slice A0_2 l0_2.length c0_2, .slice A0_3 l0_3.length c0_3, .int .i64 a0_4]) (t := 30) ?hr ?_; (case hd => rfl); (case hg => rfl); (case hr => first | (go_simp; done) | (go_simp; rfl)); intro gb143 hg w3 hbox hb; have qB_ := bS_ (bw HB.out) hb; replace HB := Aside0.mk (qB_.2); have BK143 := Aside0.mk (hbox); have GW143 := Aside0.mk ((by rw [hg]; exact qB_.1 : w.heap.size ≤ gb143)); have GE143 := GW143; clear qB_; clear hb hbox hg))
 (try simp only [Act.put, sx_, sy_, sz_])
 go_cut [28] (fun v28 wc => ∃ (kq : Nat) (x28_1 : Bool), v28 = .bool x28_1 ∧ Aside0 (impl_YardOk.j0 kq x28_1 l0_0 l0_1 l0_2 l0_3 a0_4 = some r) ∧ Aside0 (kq ≤ k) ∧ Aside0 (wc.heap[gb143]? = some (.cells #[(.slice A0_0 l0_0.length c0_0), (.slice A0_1 l0_1.length c0_1), (.slice A0_2 l0_2.length c0_2), (.slice A0_3 l0_3.length c0_3), .int .i64 a0_4] 30 (0, 0))) ∧ Aside0 (Below w.heap.size w wc))
 case first =>
  have H := HC2.out;clear HC2;replace H := bO_ H;obtain ⟨t144, A4, H⟩ := H
  by_cases c5 : t144 = true
  ·subst c5
   rw [if_pos rfl] at H;replace H := bO_ H;obtain ⟨t145, A6, H⟩ := H
   by_cases c7 : t145 = true
   ·subst c7
    rw [if_pos rfl] at H;replace H := bO_ H;obtain ⟨t146, A8, H⟩ := H
    by_cases c9 : t146 = true
    ·subst c9
     rw [if_pos rfl] at H;have H' := Aside0.mk H;clear H;obtain ⟨hcz10_0, hcz10_1, hcz10_2, hcz10_3, hcz10_4, hfz10_0, hfz10_1, hfz10_2, hfz10_3, hfz10_4⟩ := cs5_ BK143.out
     go_wp2_with (first | ((with_reducible refine gate_callee (f := 43) rfl ?_); refine goesL_ (some 8) rfl rfl Try.func43 (by kernel_rfl) rfl #[.agg #[.slice A0_0 l0_0.length c0_0, .slice A0_1 l0_1.length c0_1]] rfl gl ?_; (with_reducible refine (impl_ArenaOk.calls k _ _ l0_0 _ _ l0_1 true _ ?side1 ?side2 ?side3 ?side4 A4.out).mono ?_); (case side1 => exact ck (Kd.C_below HR0_0.out HB.out)); (case side2 => exact HC0_0.out); (case side3 => exact ck (Kd.C_below HR0_1.out HB.out)); (case side4 => exact HC0_1.out); rintro e w11 ⟨rfl, hb⟩; refine ⟨_, rfl, ?_⟩; replace BK143 := Aside0.mk (bB BK143.out hb); replace HB := Aside0.mk (below_step (bw1 HB.out GE143.out) hb); clear hb; obtain ⟨hcz12_0, hcz12_1, hcz12_2, hcz12_3, hcz12_4, hfz12_0, hfz12_1, hfz12_2, hfz12_3, hfz12_4⟩ := cs5_ BK143.out) | (go_at_call 44; (with_reducible refine (impl_in.calls (l0_2.length : Int) 1 6 true _ A6.out).mono ?_); rintro e w' ⟨rfl, ⟨nd, rfl⟩⟩) | (go_at_call 44; (with_reducible refine (impl_in.calls a0_4 0 1000000 true _ A8.out).mono ?_); rintro e w' ⟨rfl, ⟨nd, rfl⟩⟩))
     go_meet
     case rel => exact ⟨_, (decide ((l0_3.length : Int) > 24)), (by first | rfl | (simp; done) | (simp [*]; done)), H', ⟨by first | omega | exact Nat.le_refl _⟩, ⟨bk BK143.out⟩, ⟨bw1 HB.out GE143.out⟩⟩
    ·replace c9 := Bool.eq_false_iff.mpr c9
     subst c9;rw [if_neg (show ¬ (false = true) by decide)] at H;have H' := Aside0.mk H;clear H;obtain ⟨hcz13_0, hcz13_1, hcz13_2, hcz13_3, hcz13_4, hfz13_0, hfz13_1, hfz13_2, hfz13_3, hfz13_4⟩ := cs5_ BK143.out
     go_wp2_with (first | ((with_reducible refine gate_callee (f := 43) rfl ?_); refine goesL_ (some 8) rfl rfl Try.func43 (by kernel_rfl) rfl #[.agg #[.slice A0_0 l0_0.length c0_0, .slice A0_1 l0_1.length c0_1]] rfl gl ?_; (with_reducible refine (impl_ArenaOk.calls k _ _ l0_0 _ _ l0_1 true _ ?side1 ?side2 ?side3 ?side4 A4.out).mono ?_); (case side1 => exact ck (Kd.C_below HR0_0.out HB.out)); (case side2 => exact HC0_0.out); (case side3 => exact ck (Kd.C_below HR0_1.out HB.out)); (case side4 => exact HC0_1.out); rintro e w14 ⟨rfl, hb⟩; refine ⟨_, rfl, ?_⟩; replace BK143 := Aside0.mk (bB BK143.out hb); replace HB := Aside0.mk (below_step (bw1 HB.out GE143.out) hb); clear hb; obtain ⟨hcz15_0, hcz15_1, hcz15_2, hcz15_3, hcz15_4, hfz15_0, hfz15_1, hfz15_2, hfz15_3, hfz15_4⟩ := cs5_ BK143.out) | (go_at_call 44; (with_reducible refine (impl_in.calls (l0_2.length : Int) 1 6 true _ A6.out).mono ?_); rintro e w' ⟨rfl, ⟨nd, rfl⟩⟩) | (go_at_call 44; (with_reducible refine (impl_in.calls a0_4 0 1000000 false _ A8.out).mono ?_); rintro e w' ⟨rfl, ⟨nd, rfl⟩⟩))
     go_meet
     case rel => exact ⟨_, (true), (by first | rfl | (simp; done) | (simp [*]; done)), H', ⟨by first | omega | exact Nat.le_refl _⟩, ⟨bk BK143.out⟩, ⟨bw1 HB.out GE143.out⟩⟩
   ·replace c7 := Bool.eq_false_iff.mpr c7
    subst c7;rw [if_neg (show ¬ (false = true) by decide)] at H;have H' := Aside0.mk H;clear H;obtain ⟨hcz16_0, hcz16_1, hcz16_2, hcz16_3, hcz16_4, hfz16_0, hfz16_1, hfz16_2, hfz16_3, hfz16_4⟩ := cs5_ BK143.out
    go_wp2_with (first | ((with_reducible refine gate_callee (f := 43) rfl ?_); refine goesL_ (some 8) rfl rfl Try.func43 (by kernel_rfl) rfl #[.agg #[.slice A0_0 l0_0.length c0_0, .slice A0_1 l0_1.length c0_1]] rfl gl ?_; (with_reducible refine (impl_ArenaOk.calls k _ _ l0_0 _ _ l0_1 true _ ?side1 ?side2 ?side3 ?side4 A4.out).mono ?_); (case side1 => exact ck (Kd.C_below HR0_0.out HB.out)); (case side2 => exact HC0_0.out); (case side3 => exact ck (Kd.C_below HR0_1.out HB.out)); (case side4 => exact HC0_1.out); rintro e w17 ⟨rfl, hb⟩; refine ⟨_, rfl, ?_⟩; replace BK143 := Aside0.mk (bB BK143.out hb); replace HB := Aside0.mk (below_step (bw1 HB.out GE143.out) hb); clear hb; obtain ⟨hcz18_0, hcz18_1, hcz18_2, hcz18_3, hcz18_4, hfz18_0, hfz18_1, hfz18_2, hfz18_3, hfz18_4⟩ := cs5_ BK143.out) | (go_at_call 44; (with_reducible refine (impl_in.calls (l0_2.length : Int) 1 6 false _ A6.out).mono ?_); rintro e w' ⟨rfl, ⟨nd, rfl⟩⟩))
    go_meet
    case rel => exact ⟨_, (true), (by first | rfl | (simp; done) | (simp [*]; done)), H', ⟨by first | omega | exact Nat.le_refl _⟩, ⟨bk BK143.out⟩, ⟨bw1 HB.out GE143.out⟩⟩
  ·replace c5 := Bool.eq_false_iff.mpr c5
   subst c5;rw [if_neg (show ¬ (false = true) by decide)] at H;have H' := Aside0.mk H;clear H;obtain ⟨hcz19_0, hcz19_1, hcz19_2, hcz19_3, hcz19_4, hfz19_0, hfz19_1, hfz19_2, hfz19_3, hfz19_4⟩ := cs5_ BK143.out
   go_wp2_with (first | ((with_reducible refine gate_callee (f := 43) rfl ?_); refine goesL_ (some 8) rfl rfl Try.func43 (by kernel_rfl) rfl #[.agg #[.slice A0_0 l0_0.length c0_0, .slice A0_1 l0_1.length c0_1]] rfl gl ?_; (with_reducible refine (impl_ArenaOk.calls k _ _ l0_0 _ _ l0_1 false _ ?side1 ?side2 ?side3 ?side4 A4.out).mono ?_); (case side1 => exact ck (Kd.C_below HR0_0.out HB.out)); (case side2 => exact HC0_0.out); (case side3 => exact ck (Kd.C_below HR0_1.out HB.out)); (case side4 => exact HC0_1.out); rintro e w20 ⟨rfl, hb⟩; refine ⟨_, rfl, ?_⟩; replace BK143 := Aside0.mk (bB BK143.out hb); replace HB := Aside0.mk (below_step (bw1 HB.out GE143.out) hb); clear hb))
   go_meet
   case rel => exact ⟨_, (true), (by first | rfl | (simp; done) | (simp [*]; done)), H', ⟨by first | omega | exact Nat.le_refl _⟩, ⟨bk BK143.out⟩, ⟨bw1 HB.out GE143.out⟩⟩
 case rest =>
  clear HC2;(try clear c1); (try clear p2); (try clear c4); (try clear c5); (try clear c7); (try clear c9); (try clear c16); (try clear hcz10_0 hcz10_1 hcz10_2 hcz10_3 hcz10_4); (try clear hcz12_0 hcz12_1 hcz12_2 hcz12_3 hcz12_4); (try clear hcz13_0 hcz13_1 hcz13_2 hcz13_3 hcz13_4); (try clear hcz15_0 hcz15_1 hcz15_2 hcz15_3 hcz15_4); (try clear hcz16_0 hcz16_1 hcz16_2 hcz16_3 hcz16_4); (try clear hcz18_0 hcz18_1 hcz18_2 hcz18_3 hcz18_4); (try clear hcz19_0 hcz19_1 hcz19_2 hcz19_3 hcz19_4); (try clear hfz10_0 hfz10_1 hfz10_2 hfz10_3 hfz10_4); (try clear hfz12_0 hfz12_1 hfz12_2 hfz12_3 hfz12_4); (try clear hfz13_0 hfz13_1 hfz13_2 hfz13_3 hfz13_4); (try clear hfz15_0 hfz15_1 hfz15_2 hfz15_3 hfz15_4); (try clear hfz16_0 hfz16_1 hfz16_2 hfz16_3 hfz16_4); (try clear hfz18_0 hfz18_1 hfz18_2 hfz18_3 hfz18_4); (try clear hfz19_0 hfz19_1 hfz19_2 hfz19_3 hfz19_4)
  obtain ⟨kq, x28_1, rfl, HA, HJ1, BK143, HB⟩ := hcut;cases kq with
  | zero => exact absurd HA.out (by simp [impl_YardOk.j0])
  | succ kj1 =>
   have H := HA.out;clear HA;simp only [impl_YardOk.j0] at H
   by_cases c21 : x28_1 = true
   ·subst c21
    rw [if_pos rfl] at H;obtain rfl := Option.some.inj H;go_wp2
    go_ret
    exact ⟨er, bw1 HB.out GE143.out⟩
   ·replace c21 := Bool.eq_false_iff.mpr c21
    subst c21;rw [if_neg (show ¬ (false = true) by decide)] at H;replace H := bO_ H;obtain ⟨t147, A22, H⟩ := H;have HC23 := Aside0.mk H;clear H;obtain ⟨hcz24_0, hcz24_1, hcz24_2, hcz24_3, hcz24_4, hfz24_0, hfz24_1, hfz24_2, hfz24_3, hfz24_4⟩ := cs5_ BK143.out
    go_upto_if 32 with (first | ((with_reducible refine gate_callee (f := 45) rfl ?_); refine goesL_ (some 32) rfl rfl Try.func45 (by kernel_rfl) rfl #[.slice A0_2 l0_2.length c0_2, .func (.func 46) #[] #[(.pointer (some ⟨gb143, 0, none⟩))]] rfl gl ?_; (with_reducible refine (slices_ContainsFunc_int_int_F46c900002.calls kj1 _ _ l0_2 a0_4 gb143 _ _ _ _ t147 _ ?side1 ?side2 (bk BK143.out) A22.out).mono ?_); (case side1 => exact ck (Kd.C_below HR0_2.out HB.out)); (case side2 => exact HC0_2.out); rintro e w' ⟨rfl, ⟨nd, rfl⟩⟩; refine ⟨_, rfl, ?_⟩))
    (try simp only [Act.put, sx_, sy_, sz_])
    have H := HC23.out;clear HC23
    by_cases c25 : t147 = true
    ·subst c25
     rw [if_pos rfl] at H;obtain rfl := Option.some.inj H;go_wp2
     go_ret
     exact ⟨er, bw1 HB.out GE143.out⟩
    ·replace c25 := Bool.eq_false_iff.mpr c25
     subst c25;rw [if_neg (show ¬ (false = true) by decide)] at H;have H' := Aside0.mk H;clear H;obtain ⟨hcz26_0, hcz26_1, hcz26_2, hcz26_3, hcz26_4, hfz26_0, hfz26_1, hfz26_2, hfz26_3, hfz26_4⟩ := cs5_ BK143.out;go_wp2
     go_loopg [3, 36] kj1 (fun kq v3 v36 w' => ∃ (x3_2 : Int) (x36_2 : Int), v3 = .int .i64 x3_2 ∧ v36 = .int .i64 x36_2 ∧ Aside0 (impl_YardOk.l0 kq x3_2 l0_3 (l0_3.length : Int) x36_2 l0_0 l0_1 l0_2 l0_3 a0_4 = some r) ∧ Aside0 (kq ≤ kj1) ∧ Aside0 (w'.heap[gb143]? = some (.cells #[(.slice A0_0 l0_0.length c0_0), (.slice A0_1 l0_1.length c0_1), (.slice A0_2 l0_2.length c0_2), (.slice A0_3 l0_3.length c0_3), .int .i64 a0_4] 30 (0, 0))) ∧ Aside0 (Below w.heap.size w w'))
     case atStart => exact ⟨(0), (0), (by first | rfl | (simp; done) | (simp [*]; done)), (by first | rfl | (simp; done) | (simp [*]; done)), H', ⟨Nat.le_refl _⟩, ⟨bk BK143.out⟩, ⟨bw1 HB.out GE143.out⟩⟩
     case round =>
      clear H';(try clear c1); (try clear c2); (try clear p2); (try clear c4); (try clear c5); (try clear c7); (try clear c9); (try clear c16); (try clear c21); (try clear c25); (try clear hcz10_0 hcz10_1 hcz10_2 hcz10_3 hcz10_4); (try clear hcz12_0 hcz12_1 hcz12_2 hcz12_3 hcz12_4); (try clear hcz13_0 hcz13_1 hcz13_2 hcz13_3 hcz13_4); (try clear hcz15_0 hcz15_1 hcz15_2 hcz15_3 hcz15_4); (try clear hcz16_0 hcz16_1 hcz16_2 hcz16_3 hcz16_4); (try clear hcz18_0 hcz18_1 hcz18_2 hcz18_3 hcz18_4); (try clear hcz19_0 hcz19_1 hcz19_2 hcz19_3 hcz19_4); (try clear hcz24_0 hcz24_1 hcz24_2 hcz24_3 hcz24_4); (try clear hcz26_0 hcz26_1 hcz26_2 hcz26_3 hcz26_4); (try clear hfz10_0 hfz10_1 hfz10_2 hfz10_3 hfz10_4); (try clear hfz12_0 hfz12_1 hfz12_2 hfz12_3 hfz12_4); (try clear hfz13_0 hfz13_1 hfz13_2 hfz13_3 hfz13_4); (try clear hfz15_0 hfz15_1 hfz15_2 hfz15_3 hfz15_4); (try clear hfz16_0 hfz16_1 hfz16_2 hfz16_3 hfz16_4); (try clear hfz18_0 hfz18_1 hfz18_2 hfz18_3 hfz18_4); (try clear hfz19_0 hfz19_1 hfz19_2 hfz19_3 hfz19_4); (try clear hfz24_0 hfz24_1 hfz24_2 hfz24_3 hfz24_4); (try clear hfz26_0 hfz26_1 hfz26_2 hfz26_3 hfz26_4); (try clear p2)
      obtain ⟨x3_2, x36_2, rfl, rfl, HA, HK2, BK143, HB⟩ := hrel;cases gk with
      | zero => exact absurd HA.out (by simp [impl_YardOk.l0])
      | succ k2 =>
       have H := HA.out;clear HA;simp only [impl_YardOk.l0] at H
       by_cases c27 : x36_2 < (l0_3.length : Int)
       ·rw [if_pos c27] at H
        have c27b0 : decide (x36_2 < (l0_3.length : Int)) = true := decide_eq_true c27;clear c27;(first | rw [c27b0] | (simp only [i64_w, i32_w]; rw [c27b0]) | skip)
        by_cases c28 : 0 ≤ x36_2
        ·rw [if_pos c28] at H
         have c28b0 : decide (0 ≤ x36_2) = true := decide_eq_true c28;clear c28
         by_cases c29 : x36_2 < (l0_3.length : Int)
         ·rw [if_pos c29] at H
          have c29b0 : decide (x36_2 < (l0_3.length : Int)) = true := decide_eq_true c29;clear c29;replace H := bO_ H;obtain ⟨t150, A30, H⟩ := H
          by_cases c31 : t150 = true
          ·subst c31
           rw [if_pos rfl] at H;replace H := bO_ H;obtain ⟨t151, A32, H⟩ := H
           by_cases c33 : t151 = true
           ·subst c33
            rw [if_pos rfl] at H;have c34b0 := eq_true (oa : 0 ≤ x36_2)
            by_cases c35 : x36_2 ≤ (l0_3.length : Int)
            ·rw [if_pos c35] at H
             have c35b0 := eq_true c35;have c35b1 : decide (x36_2 ≤ (l0_3.length : Int)) = true := decide_eq_true c35;clear c35;obtain ⟨y152, hy152⟩ : ∃ y_ : List (S41), y_ = (l0_3.take (x36_2 : Int).toNat) := ⟨_, rfl⟩;replace H : ((impl_isRetired.f k2 y152 ((rd_T41 l0_3 x36_2).f0)).bind fun t156 => (if t156 = true then (some false) else (impl_YardOk.l0 k2 ((rd_T41 l0_3 x36_2).f1) l0_3 (l0_3.length : Int) (wrap64 (x36_2 + 1)) l0_0 l0_1 l0_2 l0_3 a0_4))) = some r := by first | (rw [hy152]; with_reducible exact H) | (have H2_ := (Option.bind_some _ _).symm.trans H; rw [hy152]; with_reducible exact H2_) | (have H2_ := (Option.bind_some _ _).symm.trans H; with_reducible exact H2_) | with_reducible exact H | (rw [hy152]; exact H) | exact H
             have Ny152 := Aside0.mk hy152;clear hy152;replace H := bO_ H;obtain ⟨t156, A36, H⟩ := H;have HC37 := Aside0.mk H;clear H;have p148 : 0 ≤ (x36_2 : Int) := oa;have q148 : x36_2 < (l0_3.length : Int) := oa;obtain ⟨ad148, e148, hx148_0, hx148_1⟩ := at_T41 HR0_3.out x36_2 p148 q148;cases e148;replace hx148_0 := (HB.out.cell (World.block_lt_of_cell? w _ hx148_0)).trans hx148_0;replace hx148_1 := (HB.out.cell (World.block_lt_of_cell? w _ hx148_1)).trans hx148_1;replace p148 := eq_true p148;replace q148 := eq_true q148
             try go_wp2_with (first | ((with_reducible refine gate_dst (N := 5) rfl ?_); (try (refine gate_guard (by rfl) ?_; dsimp only)); refine box_event ?hg (N := 5) ?hd (cs := #[.int .i64 0, .int .i64 0]) (t := 41) ?hr ?_; (case hd => rfl); (case hg => rfl); (case hr => first | (go_simp; done) | (go_simp; rfl)); intro gb149 hg w38 hbox hb; have qB_ := bS_ (bw1 HB.out GE143.out) hb; replace HB := Aside0.mk (qB_.2); have BK149 := Aside0.mk (hbox); have GW149 := Aside0.mk ((by rw [hg]; exact qB_.1 : w.heap.size ≤ gb149)); have GE149 := GW149; have NB143_149 := Aside0.mk ((by rw [hg]; exact Nat.ne_of_lt (bL BK143.out) : gb143 ≠ gb149)); have NB149_143 := Aside0.mk ((by rw [hg]; exact Nat.ne_of_gt (bL BK143.out) : gb149 ≠ gb143)); replace BK143 := Aside0.mk (bB BK143.out hb); clear qB_; clear hb hbox hg; have hnb39 := NB149_143.out; have hnc39 := NB143_149.out; obtain ⟨hcz40_0, hcz40_1, hfz40_0, hfz40_1⟩ := cs2_ BK149.out) | ((with_reducible refine gate_store (t := 41) (p := 5) rfl ?_); refine store_event (t := 41) (p := 5) (v := ?vo_w41) (w1 := ((w38.setCell ⟨gb149, 0, none⟩ (.int .i64 ((rd_T41 l0_3 x36_2).f0))).setCell ⟨gb149, 1, none⟩ (.int .i64 ((rd_T41 l0_3 x36_2).f1)))) ?hg ?ho ?hn ?hr ?_; (case ho => rfl); (case hg => rfl); (case hn => rfl); (case hr => first | (go_simp; done) | (go_simp; rfl)); intro w41 hw; replace BK143 : Aside0 (w41.heap[gb143]? = some (.cells #[.slice A0_0 l0_0.length c0_0, .slice A0_1 l0_1.length c0_1, .slice A0_2 l0_2.length c0_2, .slice (some ad148) l0_3.length c0_3, .int .i64 a0_4] 30 (0, 0))) := ⟨(by rw [hw]; exact (by (with_reducible repeat (first | refine blk_drewN ?_ _ | refine blk_drew ?_ | refine blk_alloc ?_ _)); refine blk_far ?_ NB143_149.out _; refine blk_far ?_ NB143_149.out _; (with_reducible repeat (first | refine blk_drewN ?_ _ | refine blk_drew ?_ | refine blk_alloc ?_ _)); exact BK143.out))⟩; replace BK149 : Aside0 (w41.heap[gb149]? = some (.cells #[.int .i64 ((rd_T41 l0_3 x36_2).f0), .int .i64 ((rd_T41 l0_3 x36_2).f1)] 41 (0, 0))) := ⟨(by rw [hw]; exact (by (with_reducible repeat (first | refine blk_drewN ?_ _ | refine blk_drew ?_ | refine blk_alloc ?_ _)); refine blk_put (cs := #[.int .i64 ((rd_T41 l0_3 x36_2).f0), .int .i64 0]) ?_ 1 _ rfl; refine blk_put (cs := #[.int .i64 0, .int .i64 0]) ?_ 0 _ rfl; (with_reducible repeat (first | refine blk_drewN ?_ _ | refine blk_drew ?_ | refine blk_alloc ?_ _)); exact BK149.out))⟩; replace HB : Aside0 (Below w.heap.size w w41) := ⟨(by rw [hw]; exact (bw2 HB.out GE143.out GE149.out))⟩; clear hw))
             replace BK143 := Aside0.mk (blk_drew BK143.out);replace BK149 := Aside0.mk (blk_drew BK149.out);replace HB := Aside0.mk (below_drew1 HB.out);refine start_ (n := 24) (S := fun w' => w'.cell? ⟨gb149, 0, none⟩ = some (.int .i64 ((rd_T41 l0_3 x36_2).f0)) ∧ w'.cell? ⟨gb149, 1, none⟩ = some (.int .i64 ((rd_T41 l0_3 x36_2).f1)) ∧ w'.cell? ⟨gb143, 0, none⟩ = some (.slice A0_0 l0_0.length c0_0) ∧ w'.cell? ⟨gb143, 1, none⟩ = some (.slice A0_1 l0_1.length c0_1) ∧ w'.cell? ⟨gb143, 2, none⟩ = some (.slice A0_2 l0_2.length c0_2) ∧ w'.cell? ⟨gb143, 3, none⟩ = some (.slice (some ad148) l0_3.length c0_3) ∧ w'.cell? ⟨gb143, 4, none⟩ = some (.int .i64 a0_4)) (ds := []) impl_YardOk.bt0_ (by kernel_rfl) rfl rfl ⟨(blk_cell BK149.out 0).trans rfl, (blk_cell BK149.out 1).trans rfl, (blk_cell BK143.out 0).trans rfl, (blk_cell BK143.out 1).trans rfl, (blk_cell BK143.out 2).trans rfl, (blk_cell BK143.out 3).trans rfl, (blk_cell BK143.out 4).trans rfl⟩ (fun hHeld => ?_); refine with_tabW impl_YardOk.tab9 impl_YardOk.bits9 (fun HT_ HW_ => ?_);generalize w41.drew = w42 at BK143 BK149 HB hHeld ⊢;refine pure_ (i := 0) (N := some 41) (v := ?_) (a' := ?_) impl_YardOk.bt1_ rfl rfl (any_of HT_.out (by kernel_rfl)) (fun _ _ _ h => h) (Or.inl ⟨by rfl, ?_⟩) ?_ ?_;rotate_left;(intro w';go_simp;with_reducible rfl);rotate_left;(simp only [Act.put, sx_, sy_, sz_, i64_w, i32_w];rfl);refine pure_ (i := 2) (N := some 43) (v := ?_) (a' := ?_) impl_YardOk.bt2_ rfl rfl (any_of HT_.out (by kernel_rfl)) (fun _ _ _ h => h) (Or.inl ⟨by rfl, ?_⟩) ?_ ?_;rotate_left;(intro w';go_simp;with_reducible rfl);rotate_left;(simp only [Act.put, sx_, sy_, sz_, i64_w, i32_w];rfl);refine pure_ (i := 3) (N := some 44) (v := ?_) (a' := ?_) impl_YardOk.bt3_ rfl rfl (any_of HT_.out (by kernel_rfl)) (fun _ _ _ h => h) (Or.inl ⟨by rfl, ?_⟩) ?_ ?_;rotate_left;(intro w';go_simp;with_reducible rfl);rotate_left;(simp only [Act.put, sx_, sy_, sz_, i64_w, i32_w];rfl);refine take_ (i := 1) (N := some 42) (v := ?_) (a' := ?_) impl_YardOk.bt4_ rfl rfl (take_ofW HT_.out HW_.out (by kernel_rfl)) (fun _ _ _ h => h) (Or.inl ⟨by rfl, ?_⟩) hHeld ?_ ?_;rotate_left;(rintro w' ⟨s0, s1, s2, s3, s4, s5, s6⟩;go_simp;with_reducible rfl);rotate_left;(simp only [Act.put, sx_, sy_, sz_, i64_w, i32_w];rfl);refine take_ (i := 4) (N := some 45) (v := ?_) (a' := ?_) impl_YardOk.bt5_ rfl rfl (take_ofW HT_.out HW_.out (by kernel_rfl)) (fun _ _ _ h => h) (Or.inl ⟨by rfl, ?_⟩) hHeld ?_ ?_;rotate_left;(rintro w' ⟨s0, s1, s2, s3, s4, s5, s6⟩;go_simp;with_reducible rfl);rotate_left;(simp only [Act.put, sx_, sy_, sz_, i64_w, i32_w];rfl);refine one_ (i := 5) (N := some 46) impl_YardOk.bt6_ rfl rfl (one_of HT_.out (by kernel_rfl)) (by decide) (fun K hK => ?_);refine goes_ Try.func44 (by kernel_rfl) rfl #[.int .i64 ((rd_T41 l0_3 x36_2).f1), .int .i64 x3_2, .int .i64 a0_4] (by rfl) rfl rfl gl ?_
             with_reducible refine (impl_in.calls ((rd_T41 l0_3 x36_2).f1) x3_2 a0_4 true _ A30.out).mono ?_
             rintro e w' ⟨rfl, ⟨nd, rfl⟩⟩;refine ⟨_, rfl, ?_⟩;refine hK.out _ _ ⟨(blk_cell BK149.out 0).trans rfl, (blk_cell BK149.out 1).trans rfl, (blk_cell BK143.out 0).trans rfl, (blk_cell BK143.out 1).trans rfl, (blk_cell BK143.out 2).trans rfl, (blk_cell BK143.out 3).trans rfl, (blk_cell BK143.out 4).trans rfl⟩ (fun hHeld => ?_);clear hK K;refine norm_ (a' := ?_) ?_ ?_;rotate_left;(show Act.put _ (some 46) _ = _;simp only [Act.put, sx_, sy_, sz_, i64_w, i32_w];rfl);refine pure_ (i := 6) (N := some 47) (v := ?_) (a' := ?_) impl_YardOk.bt7_ rfl rfl (any_of HT_.out (by kernel_rfl)) (fun _ _ _ h => h) (Or.inl ⟨by rfl, ?_⟩) ?_ ?_;rotate_left;(intro w';go_simp;with_reducible rfl);rotate_left;(simp only [Act.put, sx_, sy_, sz_, i64_w, i32_w];rfl);refine pure_ (i := 7) (N := some 48) (v := ?_) (a' := ?_) impl_YardOk.bt8_ rfl rfl (any_of HT_.out (by kernel_rfl)) (fun _ _ _ h => h) (Or.inl ⟨by rfl, ?_⟩) ?_ ?_;rotate_left;(intro w';go_simp;with_reducible rfl);rotate_left;(simp only [Act.put, sx_, sy_, sz_, i64_w, i32_w];rfl);refine pure_ (i := 8) (N := some 49) (v := ?_) (a' := ?_) impl_YardOk.bt9_ rfl rfl (any_of HT_.out (by kernel_rfl)) (fun _ _ _ h => h) (Or.inl ⟨by rfl, ?_⟩) ?_ ?_;rotate_left;(intro w';go_simp;with_reducible rfl);rotate_left;(simp only [Act.put, sx_, sy_, sz_, i64_w, i32_w];rfl);refine pure_ (i := 10) (N := some 51) (v := ?_) (a' := ?_) impl_YardOk.bt10_ rfl rfl (any_of HT_.out (by kernel_rfl)) (fun _ _ _ h => h) (Or.inl ⟨by rfl, ?_⟩) ?_ ?_;rotate_left;(intro w';go_simp;with_reducible rfl);rotate_left;(simp only [Act.put, sx_, sy_, sz_, i64_w, i32_w];rfl);refine take_ (i := 9) (N := some 50) (v := ?_) (a' := ?_) impl_YardOk.bt11_ rfl rfl (take_ofW HT_.out HW_.out (by kernel_rfl)) (fun _ _ _ h => h) (Or.inl ⟨by rfl, ?_⟩) hHeld ?_ ?_;rotate_left;(rintro w' ⟨s0, s1, s2, s3, s4, s5, s6⟩;go_simp;with_reducible rfl);rotate_left;(simp only [Act.put, sx_, sy_, sz_, i64_w, i32_w];rfl);refine take_ (i := 11) (N := some 52) (v := ?_) (a' := ?_) impl_YardOk.bt12_ rfl rfl (take_ofW HT_.out HW_.out (by kernel_rfl)) (fun _ _ _ h => h) (Or.inl ⟨by rfl, ?_⟩) hHeld ?_ ?_;rotate_left;(rintro w' ⟨s0, s1, s2, s3, s4, s5, s6⟩;go_simp;with_reducible rfl);rotate_left;(simp only [Act.put, sx_, sy_, sz_, i64_w, i32_w];rfl);refine one_ (i := 12) (N := some 53) impl_YardOk.bt13_ rfl rfl (one_of HT_.out (by kernel_rfl)) (by decide) (fun K hK => ?_);refine goes_ Try.func19 (by kernel_rfl) rfl #[.agg #[.slice A0_0 l0_0.length c0_0, .slice A0_1 l0_1.length c0_1], .int .i64 ((rd_T41 l0_3 x36_2).f0)] (by rfl) rfl rfl gl ?_
             with_reducible refine (impl_Live.calls k2 _ _ l0_0 _ _ l0_1 ((rd_T41 l0_3 x36_2).f0) true _ ?side1 ?side2 ?side3 ?side4 A32.out).mono ?_
             (case side1 => exact ck (Kd.C_below HR0_0.out (bw2 HB.out GE143.out GE149.out)))
             (case side2 => exact HC0_0.out)
             (case side3 => exact ck (Kd.C_below HR0_1.out (bw2 HB.out GE143.out GE149.out)))
             (case side4 => exact HC0_1.out)
             rintro e w43 ⟨rfl, hb⟩;refine ⟨_, rfl, ?_⟩;replace BK143 := Aside0.mk (bB BK143.out hb);replace BK149 := Aside0.mk (bB BK149.out hb);replace HB := Aside0.mk (below_step (bw2 HB.out GE143.out GE149.out) hb);(try clear hb);(try clear hb2);(try clear hk);(try clear hi);have q44 : (x36_2 : Int) ≤ ((l0_3.length : Int) : Int) := oa;obtain ⟨i044, hi044, _, hsz44, _⟩ := info_parts info41;have hroom44 : l0_3.length ≤ c0_3 := HC0_3.out;have hC44 : Kd.C k41 _ (some ad148) l0_3.length l0_3 := HR0_3.out;have hcut44 := cut_to (P := Try.prog) 28 41 .i64 Try.underlying28 hi044 (some ad148) l0_3.length c0_3 x36_2 (oa) q44 hroom44;have hr44 := Kd.C_take (m := (x36_2 : Int).toNat) hC44 (by omega);have hy44 : y152.length = (x36_2 : Int).toNat := (by rw [Ny152.out, List.length_take]; omega);rw [← Ny152.out] at hr44;rw [← hy44] at hcut44;have HR155 := Aside0.mk hr44;have HC155 := Aside0.mk (show y152.length ≤ c0_3 from by omega);clear hr44 hC44 hroom44 hi044 hsz44;have KY44 := Aside0.mk hy44;clear hy44;replace q44 := eq_true q44;refine hK.out _ _ ⟨(blk_cell BK149.out 0).trans rfl, (blk_cell BK149.out 1).trans rfl, (blk_cell BK143.out 0).trans rfl, (blk_cell BK143.out 1).trans rfl, (blk_cell BK143.out 2).trans rfl, (blk_cell BK143.out 3).trans rfl, (blk_cell BK143.out 4).trans rfl⟩ (fun hHeld => ?_);clear hK K;refine norm_ (a' := ?_) ?_ ?_;rotate_left;(show Act.put _ (some 53) _ = _;simp only [Act.put, sx_, sy_, sz_, i64_w, i32_w];rfl);refine pure_ (i := 13) (N := some 54) (v := ?_) (a' := ?_) impl_YardOk.bt14_ rfl rfl (any_of HT_.out (by kernel_rfl)) (fun _ _ _ h => h) (Or.inl ⟨by rfl, ?_⟩) ?_ ?_;rotate_left;(intro w';go_simp;with_reducible rfl);rotate_left;(simp only [Act.put, sx_, sy_, sz_, i64_w, i32_w];rfl);refine pure_ (i := 14) (N := some 55) (v := ?_) (a' := ?_) impl_YardOk.bt15_ rfl rfl (any_of HT_.out (by kernel_rfl)) (fun _ _ _ h => h) (Or.inl ⟨by rfl, ?_⟩) ?_ ?_;rotate_left;(intro w';go_simp;with_reducible rfl);rotate_left;(simp only [Act.put, sx_, sy_, sz_, i64_w, i32_w];rfl);refine pure_ (i := 15) (N := some 56) (v := ?_) (a' := ?_) impl_YardOk.bt16_ rfl rfl (any_of HT_.out (by kernel_rfl)) (fun _ _ _ h => h) (Or.inl ⟨by rfl, ?_⟩) ?_ ?_;rotate_left;(intro w';go_simp;with_reducible rfl);rotate_left;(simp only [Act.put, sx_, sy_, sz_, i64_w, i32_w];rfl);refine pure_ (i := 16) (N := some 57) (v := ?_) (a' := ?_) impl_YardOk.bt17_ rfl rfl (any_of HT_.out (by kernel_rfl)) (fun _ _ _ h => h) (Or.inl ⟨by rfl, ?_⟩) ?_ ?_;rotate_left;(intro w';go_simp;with_reducible rfl);rotate_left;(simp only [Act.put, sx_, sy_, sz_, i64_w, i32_w];rfl);refine pure_ (i := 18) (N := some 59) (v := ?_) (a' := ?_) impl_YardOk.bt18_ rfl rfl (any_of HT_.out (by kernel_rfl)) (fun _ _ _ h => h) (Or.inl ⟨by rfl, ?_⟩) ?_ ?_;rotate_left;(intro w';go_simp;with_reducible rfl);rotate_left;(simp only [Act.put, sx_, sy_, sz_, i64_w, i32_w];rfl);refine pure_ (i := 20) (N := some 61) (v := ?_) (a' := ?_) impl_YardOk.bt19_ rfl rfl (any_of HT_.out (by kernel_rfl)) (fun _ _ _ h => h) (Or.inl ⟨by rfl, ?_⟩) ?_ ?_;rotate_left;(intro w';go_simp;with_reducible rfl);rotate_left;(simp only [Act.put, sx_, sy_, sz_, i64_w, i32_w];rfl);refine take_ (i := 17) (N := some 58) (v := ?_) (a' := ?_) impl_YardOk.bt20_ rfl rfl (take_ofW HT_.out HW_.out (by kernel_rfl)) (fun _ _ _ h => h) (Or.inl ⟨by rfl, ?_⟩) hHeld ?_ ?_;rotate_left;(rintro w' ⟨s0, s1, s2, s3, s4, s5, s6⟩;go_simp;with_reducible rfl);rotate_left;(simp only [Act.put, sx_, sy_, sz_, i64_w, i32_w];rfl);refine pure_ (i := 19) (N := some 60) (v := ?_) (a' := ?_) impl_YardOk.bt21_ rfl rfl (any_of HT_.out (by kernel_rfl)) (fun _ _ _ h => h) (Or.inl ⟨by rfl, ?_⟩) ?_ ?_;rotate_left;(intro w';go_simp;with_reducible rfl);rotate_left;(simp only [Act.put, sx_, sy_, sz_, i64_w, i32_w];rfl);refine take_ (i := 21) (N := some 62) (v := ?_) (a' := ?_) impl_YardOk.bt22_ rfl rfl (take_ofW HT_.out HW_.out (by kernel_rfl)) (fun _ _ _ h => h) (Or.inl ⟨by rfl, ?_⟩) hHeld ?_ ?_;rotate_left;(rintro w' ⟨s0, s1, s2, s3, s4, s5, s6⟩;go_simp;with_reducible rfl);rotate_left;(simp only [Act.put, sx_, sy_, sz_, i64_w, i32_w];rfl)
             refine one_ (i := 22) (N := some 63) impl_YardOk.bt23_ rfl rfl (one_of HT_.out (by kernel_rfl)) (by decide) (fun K hK => ?_);refine goes_ Try.func47 (by kernel_rfl) rfl #[.slice (some ad148) y152.length c0_3, .int .i64 ((rd_T41 l0_3 x36_2).f0)] (by rfl) rfl rfl gl ?_
             with_reducible refine (impl_isRetired.calls k2 _ _ y152 ((rd_T41 l0_3 x36_2).f0) t156 _ ?side1 ?side2 A36.out).mono ?_
             (case side1 => exact ck (Kd.C_below HR155.out HB.out))
             (case side2 => exact HC155.out)
             rintro e w45 ⟨rfl, hb⟩;refine ⟨_, rfl, ?_⟩;replace BK143 := Aside0.mk (bB BK143.out hb);replace BK149 := Aside0.mk (bB BK149.out hb);replace HB := Aside0.mk (below_step (bw2 HB.out GE143.out GE149.out) hb);(try clear hb);(try clear hb2);(try clear hk);(try clear hi);refine hK.out _ _ ⟨(blk_cell BK149.out 0).trans rfl, (blk_cell BK149.out 1).trans rfl, (blk_cell BK143.out 0).trans rfl, (blk_cell BK143.out 1).trans rfl, (blk_cell BK143.out 2).trans rfl, (blk_cell BK143.out 3).trans rfl, (blk_cell BK143.out 4).trans rfl⟩ (fun hHeld => ?_);clear hK K;refine norm_ (a' := ?_) ?_ ?_;rotate_left;(show Act.put _ (some 63) _ = _;simp only [Act.put, sx_, sy_, sz_, i64_w, i32_w];rfl);refine pure_ (i := 23) (N := some 64) (v := ?_) (a' := ?_) impl_YardOk.bt24_ rfl rfl (any_of HT_.out (by kernel_rfl)) (fun _ _ _ h => h) (Or.inl ⟨by rfl, ?_⟩) ?_ ?_;rotate_left;(intro w';go_simp;with_reducible rfl);rotate_left;(simp only [Act.put, sx_, sy_, sz_, i64_w, i32_w];rfl);refine done_ (done_of HT_.out (by kernel_rfl)) ?_
             go_upto_if 64 with (fail)
             have H := HC37.out;clear HC37
             by_cases c46 : t156 = true
             ·subst c46
              rw [if_pos rfl] at H;obtain rfl := Option.some.inj H;go_wp2
              go_ret
              exact ⟨er, bw2 HB.out GE143.out GE149.out⟩
             ·replace c46 := Bool.eq_false_iff.mpr c46
              subst c46;rw [if_neg (show ¬ (false = true) by decide)] at H;have H' := Aside0.mk H;clear H;have hnb47 := NB149_143.out;have hnc47 := NB143_149.out;obtain ⟨hcz48_0, hcz48_1, hfz48_0, hfz48_1⟩ := cs2_ BK149.out;go_wp2
              go_roundg k2
              case measure => have := HJ1.out; have := HK2.out; omega
              case rel => exact ⟨((rd_T41 l0_3 x36_2).f1), (wrap64 (x36_2 + 1)), (by first | rfl | (simp; done) | (simp [*]; done)), (by first | rfl | (simp; done) | (simp [*]; done)), H', ⟨by have := HJ1.out; have := HK2.out; omega⟩, ⟨bk BK143.out⟩, ⟨bw2 HB.out GE143.out GE149.out⟩⟩
            ·rw [if_neg c35] at H
             exact absurd H (by simp)
           ·replace c33 := Bool.eq_false_iff.mpr c33
            subst c33;rw [if_neg (show ¬ (false = true) by decide)] at H;obtain rfl := Option.some.inj H;have p148 : 0 ≤ (x36_2 : Int) := oa;have q148 : x36_2 < (l0_3.length : Int) := oa;obtain ⟨ad148, e148, hx148_0, hx148_1⟩ := at_T41 HR0_3.out x36_2 p148 q148;cases e148;replace hx148_0 := (HB.out.cell (World.block_lt_of_cell? w _ hx148_0)).trans hx148_0;replace hx148_1 := (HB.out.cell (World.block_lt_of_cell? w _ hx148_1)).trans hx148_1;replace p148 := eq_true p148;replace q148 := eq_true q148
            try go_wp2_with (first | ((with_reducible refine gate_dst (N := 5) rfl ?_); (try (refine gate_guard (by rfl) ?_; dsimp only)); refine box_event ?hg (N := 5) ?hd (cs := #[.int .i64 0, .int .i64 0]) (t := 41) ?hr ?_; (case hd => rfl); (case hg => rfl); (case hr => first | (go_simp; done) | (go_simp; rfl)); intro gb149 hg w49 hbox hb; have qB_ := bS_ (bw1 HB.out GE143.out) hb; replace HB := Aside0.mk (qB_.2); have BK149 := Aside0.mk (hbox); have GW149 := Aside0.mk ((by rw [hg]; exact qB_.1 : w.heap.size ≤ gb149)); have GE149 := GW149; have NB143_149 := Aside0.mk ((by rw [hg]; exact Nat.ne_of_lt (bL BK143.out) : gb143 ≠ gb149)); have NB149_143 := Aside0.mk ((by rw [hg]; exact Nat.ne_of_gt (bL BK143.out) : gb149 ≠ gb143)); replace BK143 := Aside0.mk (bB BK143.out hb); clear qB_; clear hb hbox hg; have hnb50 := NB149_143.out; have hnc50 := NB143_149.out; obtain ⟨hcz51_0, hcz51_1, hfz51_0, hfz51_1⟩ := cs2_ BK149.out) | ((with_reducible refine gate_store (t := 41) (p := 5) rfl ?_); refine store_event (t := 41) (p := 5) (v := ?vo_w52) (w1 := ((w49.setCell ⟨gb149, 0, none⟩ (.int .i64 ((rd_T41 l0_3 x36_2).f0))).setCell ⟨gb149, 1, none⟩ (.int .i64 ((rd_T41 l0_3 x36_2).f1)))) ?hg ?ho ?hn ?hr ?_; (case ho => rfl); (case hg => rfl); (case hn => rfl); (case hr => first | (go_simp; done) | (go_simp; rfl)); intro w52 hw; replace BK143 : Aside0 (w52.heap[gb143]? = some (.cells #[.slice A0_0 l0_0.length c0_0, .slice A0_1 l0_1.length c0_1, .slice A0_2 l0_2.length c0_2, .slice (some ad148) l0_3.length c0_3, .int .i64 a0_4] 30 (0, 0))) := ⟨(by rw [hw]; exact (by (with_reducible repeat (first | refine blk_drewN ?_ _ | refine blk_drew ?_ | refine blk_alloc ?_ _)); refine blk_far ?_ NB143_149.out _; refine blk_far ?_ NB143_149.out _; (with_reducible repeat (first | refine blk_drewN ?_ _ | refine blk_drew ?_ | refine blk_alloc ?_ _)); exact BK143.out))⟩; replace BK149 : Aside0 (w52.heap[gb149]? = some (.cells #[.int .i64 ((rd_T41 l0_3 x36_2).f0), .int .i64 ((rd_T41 l0_3 x36_2).f1)] 41 (0, 0))) := ⟨(by rw [hw]; exact (by (with_reducible repeat (first | refine blk_drewN ?_ _ | refine blk_drew ?_ | refine blk_alloc ?_ _)); refine blk_put (cs := #[.int .i64 ((rd_T41 l0_3 x36_2).f0), .int .i64 0]) ?_ 1 _ rfl; refine blk_put (cs := #[.int .i64 0, .int .i64 0]) ?_ 0 _ rfl; (with_reducible repeat (first | refine blk_drewN ?_ _ | refine blk_drew ?_ | refine blk_alloc ?_ _)); exact BK149.out))⟩; replace HB : Aside0 (Below w.heap.size w w52) := ⟨(by rw [hw]; exact (bw2 HB.out GE143.out GE149.out))⟩; clear hw))
            replace BK143 := Aside0.mk (blk_drew BK143.out);replace BK149 := Aside0.mk (blk_drew BK149.out);replace HB := Aside0.mk (below_drew1 HB.out);refine start_ (n := 24) (S := fun w' => w'.cell? ⟨gb149, 0, none⟩ = some (.int .i64 ((rd_T41 l0_3 x36_2).f0)) ∧ w'.cell? ⟨gb149, 1, none⟩ = some (.int .i64 ((rd_T41 l0_3 x36_2).f1)) ∧ w'.cell? ⟨gb143, 0, none⟩ = some (.slice A0_0 l0_0.length c0_0) ∧ w'.cell? ⟨gb143, 1, none⟩ = some (.slice A0_1 l0_1.length c0_1) ∧ w'.cell? ⟨gb143, 2, none⟩ = some (.slice A0_2 l0_2.length c0_2) ∧ w'.cell? ⟨gb143, 3, none⟩ = some (.slice (some ad148) l0_3.length c0_3) ∧ w'.cell? ⟨gb143, 4, none⟩ = some (.int .i64 a0_4)) (ds := []) impl_YardOk.bt0_ (by kernel_rfl) rfl rfl ⟨(blk_cell BK149.out 0).trans rfl, (blk_cell BK149.out 1).trans rfl, (blk_cell BK143.out 0).trans rfl, (blk_cell BK143.out 1).trans rfl, (blk_cell BK143.out 2).trans rfl, (blk_cell BK143.out 3).trans rfl, (blk_cell BK143.out 4).trans rfl⟩ (fun hHeld => ?_); refine with_tabW impl_YardOk.tab9 impl_YardOk.bits9 (fun HT_ HW_ => ?_);generalize w52.drew = w53 at BK143 BK149 HB hHeld ⊢;refine pure_ (i := 0) (N := some 41) (v := ?_) (a' := ?_) impl_YardOk.bt1_ rfl rfl (any_of HT_.out (by kernel_rfl)) (fun _ _ _ h => h) (Or.inl ⟨by rfl, ?_⟩) ?_ ?_;rotate_left;(intro w';go_simp;with_reducible rfl);rotate_left;(simp only [Act.put, sx_, sy_, sz_, i64_w, i32_w];rfl);refine pure_ (i := 2) (N := some 43) (v := ?_) (a' := ?_) impl_YardOk.bt2_ rfl rfl (any_of HT_.out (by kernel_rfl)) (fun _ _ _ h => h) (Or.inl ⟨by rfl, ?_⟩) ?_ ?_;rotate_left;(intro w';go_simp;with_reducible rfl);rotate_left;(simp only [Act.put, sx_, sy_, sz_, i64_w, i32_w];rfl);refine pure_ (i := 3) (N := some 44) (v := ?_) (a' := ?_) impl_YardOk.bt3_ rfl rfl (any_of HT_.out (by kernel_rfl)) (fun _ _ _ h => h) (Or.inl ⟨by rfl, ?_⟩) ?_ ?_;rotate_left;(intro w';go_simp;with_reducible rfl);rotate_left;(simp only [Act.put, sx_, sy_, sz_, i64_w, i32_w];rfl);refine take_ (i := 1) (N := some 42) (v := ?_) (a' := ?_) impl_YardOk.bt4_ rfl rfl (take_ofW HT_.out HW_.out (by kernel_rfl)) (fun _ _ _ h => h) (Or.inl ⟨by rfl, ?_⟩) hHeld ?_ ?_;rotate_left;(rintro w' ⟨s0, s1, s2, s3, s4, s5, s6⟩;go_simp;with_reducible rfl);rotate_left;(simp only [Act.put, sx_, sy_, sz_, i64_w, i32_w];rfl);refine take_ (i := 4) (N := some 45) (v := ?_) (a' := ?_) impl_YardOk.bt5_ rfl rfl (take_ofW HT_.out HW_.out (by kernel_rfl)) (fun _ _ _ h => h) (Or.inl ⟨by rfl, ?_⟩) hHeld ?_ ?_;rotate_left;(rintro w' ⟨s0, s1, s2, s3, s4, s5, s6⟩;go_simp;with_reducible rfl);rotate_left;(simp only [Act.put, sx_, sy_, sz_, i64_w, i32_w];rfl);refine one_ (i := 5) (N := some 46) impl_YardOk.bt6_ rfl rfl (one_of HT_.out (by kernel_rfl)) (by decide) (fun K hK => ?_);refine goes_ Try.func44 (by kernel_rfl) rfl #[.int .i64 ((rd_T41 l0_3 x36_2).f1), .int .i64 x3_2, .int .i64 a0_4] (by rfl) rfl rfl gl ?_
            with_reducible refine (impl_in.calls ((rd_T41 l0_3 x36_2).f1) x3_2 a0_4 true _ A30.out).mono ?_
            rintro e w' ⟨rfl, ⟨nd, rfl⟩⟩;refine ⟨_, rfl, ?_⟩;refine hK.out _ _ ⟨(blk_cell BK149.out 0).trans rfl, (blk_cell BK149.out 1).trans rfl, (blk_cell BK143.out 0).trans rfl, (blk_cell BK143.out 1).trans rfl, (blk_cell BK143.out 2).trans rfl, (blk_cell BK143.out 3).trans rfl, (blk_cell BK143.out 4).trans rfl⟩ (fun hHeld => ?_);clear hK K;refine norm_ (a' := ?_) ?_ ?_;rotate_left;(show Act.put _ (some 46) _ = _;simp only [Act.put, sx_, sy_, sz_, i64_w, i32_w];rfl);refine pure_ (i := 6) (N := some 47) (v := ?_) (a' := ?_) impl_YardOk.bt7_ rfl rfl (any_of HT_.out (by kernel_rfl)) (fun _ _ _ h => h) (Or.inl ⟨by rfl, ?_⟩) ?_ ?_;rotate_left;(intro w';go_simp;with_reducible rfl);rotate_left;(simp only [Act.put, sx_, sy_, sz_, i64_w, i32_w];rfl);refine pure_ (i := 7) (N := some 48) (v := ?_) (a' := ?_) impl_YardOk.bt8_ rfl rfl (any_of HT_.out (by kernel_rfl)) (fun _ _ _ h => h) (Or.inl ⟨by rfl, ?_⟩) ?_ ?_;rotate_left;(intro w';go_simp;with_reducible rfl);rotate_left;(simp only [Act.put, sx_, sy_, sz_, i64_w, i32_w];rfl);refine pure_ (i := 8) (N := some 49) (v := ?_) (a' := ?_) impl_YardOk.bt9_ rfl rfl (any_of HT_.out (by kernel_rfl)) (fun _ _ _ h => h) (Or.inl ⟨by rfl, ?_⟩) ?_ ?_;rotate_left;(intro w';go_simp;with_reducible rfl);rotate_left;(simp only [Act.put, sx_, sy_, sz_, i64_w, i32_w];rfl);refine pure_ (i := 10) (N := some 51) (v := ?_) (a' := ?_) impl_YardOk.bt10_ rfl rfl (any_of HT_.out (by kernel_rfl)) (fun _ _ _ h => h) (Or.inl ⟨by rfl, ?_⟩) ?_ ?_;rotate_left;(intro w';go_simp;with_reducible rfl);rotate_left;(simp only [Act.put, sx_, sy_, sz_, i64_w, i32_w];rfl);refine take_ (i := 9) (N := some 50) (v := ?_) (a' := ?_) impl_YardOk.bt11_ rfl rfl (take_ofW HT_.out HW_.out (by kernel_rfl)) (fun _ _ _ h => h) (Or.inl ⟨by rfl, ?_⟩) hHeld ?_ ?_;rotate_left;(rintro w' ⟨s0, s1, s2, s3, s4, s5, s6⟩;go_simp;with_reducible rfl);rotate_left;(simp only [Act.put, sx_, sy_, sz_, i64_w, i32_w];rfl);refine take_ (i := 11) (N := some 52) (v := ?_) (a' := ?_) impl_YardOk.bt12_ rfl rfl (take_ofW HT_.out HW_.out (by kernel_rfl)) (fun _ _ _ h => h) (Or.inl ⟨by rfl, ?_⟩) hHeld ?_ ?_;rotate_left;(rintro w' ⟨s0, s1, s2, s3, s4, s5, s6⟩;go_simp;with_reducible rfl);rotate_left;(simp only [Act.put, sx_, sy_, sz_, i64_w, i32_w];rfl);refine one_ (i := 12) (N := some 53) impl_YardOk.bt13_ rfl rfl (one_of HT_.out (by kernel_rfl)) (by decide) (fun K hK => ?_);refine goes_ Try.func19 (by kernel_rfl) rfl #[.agg #[.slice A0_0 l0_0.length c0_0, .slice A0_1 l0_1.length c0_1], .int .i64 ((rd_T41 l0_3 x36_2).f0)] (by rfl) rfl rfl gl ?_
            with_reducible refine (impl_Live.calls k2 _ _ l0_0 _ _ l0_1 ((rd_T41 l0_3 x36_2).f0) false _ ?side1 ?side2 ?side3 ?side4 A32.out).mono ?_
            (case side1 => exact ck (Kd.C_below HR0_0.out (bw2 HB.out GE143.out GE149.out)))
            (case side2 => exact HC0_0.out)
            (case side3 => exact ck (Kd.C_below HR0_1.out (bw2 HB.out GE143.out GE149.out)))
            (case side4 => exact HC0_1.out)
            rintro e w54 ⟨rfl, hb⟩;refine ⟨_, rfl, ?_⟩;replace BK143 := Aside0.mk (bB BK143.out hb);replace BK149 := Aside0.mk (bB BK149.out hb);replace HB := Aside0.mk (below_step (bw2 HB.out GE143.out GE149.out) hb);(try clear hb);(try clear hb2);(try clear hk);(try clear hi);refine hK.out _ _ ⟨(blk_cell BK149.out 0).trans rfl, (blk_cell BK149.out 1).trans rfl, (blk_cell BK143.out 0).trans rfl, (blk_cell BK143.out 1).trans rfl, (blk_cell BK143.out 2).trans rfl, (blk_cell BK143.out 3).trans rfl, (blk_cell BK143.out 4).trans rfl⟩ (fun hHeld => ?_);clear hK K;refine norm_ (a' := ?_) ?_ ?_;rotate_left;(show Act.put _ (some 53) _ = _;simp only [Act.put, sx_, sy_, sz_, i64_w, i32_w];rfl);refine pure_ (i := 13) (N := some 54) (v := ?_) (a' := ?_) impl_YardOk.bt14_ rfl rfl (any_of HT_.out (by kernel_rfl)) (fun _ _ _ h => h) (Or.inl ⟨by rfl, ?_⟩) ?_ ?_;rotate_left;(intro w';go_simp;with_reducible rfl);rotate_left;(simp only [Act.put, sx_, sy_, sz_, i64_w, i32_w];rfl);refine pure_ (i := 14) (N := some 55) (v := ?_) (a' := ?_) impl_YardOk.bt15_ rfl rfl (any_of HT_.out (by kernel_rfl)) (fun _ _ _ h => h) (Or.inl ⟨by rfl, ?_⟩) ?_ ?_;rotate_left;(intro w';go_simp;with_reducible rfl);rotate_left;(simp only [Act.put, sx_, sy_, sz_, i64_w, i32_w];rfl);refine pure_ (i := 15) (N := some 56) (v := ?_) (a' := ?_) impl_YardOk.bt16_ rfl rfl (any_of HT_.out (by kernel_rfl)) (fun _ _ _ h => h) (Or.inl ⟨by rfl, ?_⟩) ?_ ?_;rotate_left;(intro w';go_simp;with_reducible rfl);rotate_left;(simp only [Act.put, sx_, sy_, sz_, i64_w, i32_w];rfl);refine pure_ (i := 16) (N := some 57) (v := undef) (a' := ?_) impl_YardOk.bt17_ rfl rfl (any_of HT_.out (by kernel_rfl)) (fun _ _ _ h => h) (Or.inr ⟨by rfl, rfl⟩) ?_ ?_;rotate_left
            ·simp only [Act.put, sx_, sy_, sz_, i64_w, i32_w]
             rfl
            refine pure_ (i := 17) (N := some 58) (v := undef) (a' := ?_) impl_YardOk.bt25_ rfl rfl (any_of HT_.out (by kernel_rfl)) (fun _ _ _ h => h) (Or.inr ⟨by rfl, rfl⟩) ?_ ?_;rotate_left
            ·simp only [Act.put, sx_, sy_, sz_, i64_w, i32_w]
             rfl
            refine pure_ (i := 18) (N := some 59) (v := undef) (a' := ?_) impl_YardOk.bt26_ rfl rfl (any_of HT_.out (by kernel_rfl)) (fun _ _ _ h => h) (Or.inr ⟨by rfl, rfl⟩) ?_ ?_;rotate_left
            ·simp only [Act.put, sx_, sy_, sz_, i64_w, i32_w]
             rfl
            refine pure_ (i := 19) (N := some 60) (v := undef) (a' := ?_) impl_YardOk.bt27_ rfl rfl (any_of HT_.out (by kernel_rfl)) (fun _ _ _ h => h) (Or.inr ⟨by rfl, rfl⟩) ?_ ?_;rotate_left
            ·simp only [Act.put, sx_, sy_, sz_, i64_w, i32_w]
             rfl
            refine pure_ (i := 20) (N := some 61) (v := undef) (a' := ?_) impl_YardOk.bt21_ rfl rfl (any_of HT_.out (by kernel_rfl)) (fun _ _ _ h => h) (Or.inr ⟨by rfl, rfl⟩) ?_ ?_;rotate_left
            ·simp only [Act.put, sx_, sy_, sz_, i64_w, i32_w]
             rfl
            refine pure_ (i := 21) (N := some 62) (v := undef) (a' := ?_) impl_YardOk.bt22_ rfl rfl (any_of HT_.out (by kernel_rfl)) (fun _ _ _ h => h) (Or.inr ⟨by rfl, rfl⟩) ?_ ?_;rotate_left
            ·simp only [Act.put, sx_, sy_, sz_, i64_w, i32_w]
             rfl
            refine pure_ (i := 22) (N := some 63) (v := undef) (a' := ?_) impl_YardOk.bt23_ rfl rfl (any_of HT_.out (by kernel_rfl)) (fun _ _ _ h => h) (Or.inr ⟨by rfl, rfl⟩) ?_ ?_;rotate_left
            ·simp only [Act.put, sx_, sy_, sz_, i64_w, i32_w]
             rfl
            refine pure_ (i := 23) (N := some 64) (v := ?_) (a' := ?_) impl_YardOk.bt24_ rfl rfl (any_of HT_.out (by kernel_rfl)) (fun _ _ _ h => h) (Or.inl ⟨by rfl, ?_⟩) ?_ ?_;rotate_left;(intro w';go_simp;with_reducible rfl);rotate_left;(simp only [Act.put, sx_, sy_, sz_, i64_w, i32_w];rfl);refine done_ (done_of HT_.out (by kernel_rfl)) ?_
            try go_wp2
            go_ret
            exact ⟨er, bw2 HB.out GE143.out GE149.out⟩
          ·replace c31 := Bool.eq_false_iff.mpr c31
           subst c31;rw [if_neg (show ¬ (false = true) by decide)] at H;obtain rfl := Option.some.inj H;have p148 : 0 ≤ (x36_2 : Int) := oa;have q148 : x36_2 < (l0_3.length : Int) := oa;obtain ⟨ad148, e148, hx148_0, hx148_1⟩ := at_T41 HR0_3.out x36_2 p148 q148;cases e148;replace hx148_0 := (HB.out.cell (World.block_lt_of_cell? w _ hx148_0)).trans hx148_0;replace hx148_1 := (HB.out.cell (World.block_lt_of_cell? w _ hx148_1)).trans hx148_1;replace p148 := eq_true p148;replace q148 := eq_true q148
           try go_wp2_with (first | ((with_reducible refine gate_dst (N := 5) rfl ?_); (try (refine gate_guard (by rfl) ?_; dsimp only)); refine box_event ?hg (N := 5) ?hd (cs := #[.int .i64 0, .int .i64 0]) (t := 41) ?hr ?_; (case hd => rfl); (case hg => rfl); (case hr => first | (go_simp; done) | (go_simp; rfl)); intro gb149 hg w55 hbox hb; have qB_ := bS_ (bw1 HB.out GE143.out) hb; replace HB := Aside0.mk (qB_.2); have BK149 := Aside0.mk (hbox); have GW149 := Aside0.mk ((by rw [hg]; exact qB_.1 : w.heap.size ≤ gb149)); have GE149 := GW149; have NB143_149 := Aside0.mk ((by rw [hg]; exact Nat.ne_of_lt (bL BK143.out) : gb143 ≠ gb149)); have NB149_143 := Aside0.mk ((by rw [hg]; exact Nat.ne_of_gt (bL BK143.out) : gb149 ≠ gb143)); replace BK143 := Aside0.mk (bB BK143.out hb); clear qB_; clear hb hbox hg; have hnb56 := NB149_143.out; have hnc56 := NB143_149.out; obtain ⟨hcz57_0, hcz57_1, hfz57_0, hfz57_1⟩ := cs2_ BK149.out) | ((with_reducible refine gate_store (t := 41) (p := 5) rfl ?_); refine store_event (t := 41) (p := 5) (v := ?vo_w58) (w1 := ((w55.setCell ⟨gb149, 0, none⟩ (.int .i64 ((rd_T41 l0_3 x36_2).f0))).setCell ⟨gb149, 1, none⟩ (.int .i64 ((rd_T41 l0_3 x36_2).f1)))) ?hg ?ho ?hn ?hr ?_; (case ho => rfl); (case hg => rfl); (case hn => rfl); (case hr => first | (go_simp; done) | (go_simp; rfl)); intro w58 hw; replace BK143 : Aside0 (w58.heap[gb143]? = some (.cells #[.slice A0_0 l0_0.length c0_0, .slice A0_1 l0_1.length c0_1, .slice A0_2 l0_2.length c0_2, .slice (some ad148) l0_3.length c0_3, .int .i64 a0_4] 30 (0, 0))) := ⟨(by rw [hw]; exact (by (with_reducible repeat (first | refine blk_drewN ?_ _ | refine blk_drew ?_ | refine blk_alloc ?_ _)); refine blk_far ?_ NB143_149.out _; refine blk_far ?_ NB143_149.out _; (with_reducible repeat (first | refine blk_drewN ?_ _ | refine blk_drew ?_ | refine blk_alloc ?_ _)); exact BK143.out))⟩; replace BK149 : Aside0 (w58.heap[gb149]? = some (.cells #[.int .i64 ((rd_T41 l0_3 x36_2).f0), .int .i64 ((rd_T41 l0_3 x36_2).f1)] 41 (0, 0))) := ⟨(by rw [hw]; exact (by (with_reducible repeat (first | refine blk_drewN ?_ _ | refine blk_drew ?_ | refine blk_alloc ?_ _)); refine blk_put (cs := #[.int .i64 ((rd_T41 l0_3 x36_2).f0), .int .i64 0]) ?_ 1 _ rfl; refine blk_put (cs := #[.int .i64 0, .int .i64 0]) ?_ 0 _ rfl; (with_reducible repeat (first | refine blk_drewN ?_ _ | refine blk_drew ?_ | refine blk_alloc ?_ _)); exact BK149.out))⟩; replace HB : Aside0 (Below w.heap.size w w58) := ⟨(by rw [hw]; exact (bw2 HB.out GE143.out GE149.out))⟩; clear hw))
           replace BK143 := Aside0.mk (blk_drew BK143.out);replace BK149 := Aside0.mk (blk_drew BK149.out);replace HB := Aside0.mk (below_drew1 HB.out);refine start_ (n := 24) (S := fun w' => w'.cell? ⟨gb149, 0, none⟩ = some (.int .i64 ((rd_T41 l0_3 x36_2).f0)) ∧ w'.cell? ⟨gb149, 1, none⟩ = some (.int .i64 ((rd_T41 l0_3 x36_2).f1)) ∧ w'.cell? ⟨gb143, 0, none⟩ = some (.slice A0_0 l0_0.length c0_0) ∧ w'.cell? ⟨gb143, 1, none⟩ = some (.slice A0_1 l0_1.length c0_1) ∧ w'.cell? ⟨gb143, 2, none⟩ = some (.slice A0_2 l0_2.length c0_2) ∧ w'.cell? ⟨gb143, 3, none⟩ = some (.slice (some ad148) l0_3.length c0_3) ∧ w'.cell? ⟨gb143, 4, none⟩ = some (.int .i64 a0_4)) (ds := []) impl_YardOk.bt0_ (by kernel_rfl) rfl rfl ⟨(blk_cell BK149.out 0).trans rfl, (blk_cell BK149.out 1).trans rfl, (blk_cell BK143.out 0).trans rfl, (blk_cell BK143.out 1).trans rfl, (blk_cell BK143.out 2).trans rfl, (blk_cell BK143.out 3).trans rfl, (blk_cell BK143.out 4).trans rfl⟩ (fun hHeld => ?_); refine with_tabW impl_YardOk.tab9 impl_YardOk.bits9 (fun HT_ HW_ => ?_);generalize w58.drew = w59 at BK143 BK149 HB hHeld ⊢;refine pure_ (i := 0) (N := some 41) (v := ?_) (a' := ?_) impl_YardOk.bt1_ rfl rfl (any_of HT_.out (by kernel_rfl)) (fun _ _ _ h => h) (Or.inl ⟨by rfl, ?_⟩) ?_ ?_;rotate_left;(intro w';go_simp;with_reducible rfl);rotate_left;(simp only [Act.put, sx_, sy_, sz_, i64_w, i32_w];rfl);refine pure_ (i := 2) (N := some 43) (v := ?_) (a' := ?_) impl_YardOk.bt2_ rfl rfl (any_of HT_.out (by kernel_rfl)) (fun _ _ _ h => h) (Or.inl ⟨by rfl, ?_⟩) ?_ ?_;rotate_left;(intro w';go_simp;with_reducible rfl);rotate_left;(simp only [Act.put, sx_, sy_, sz_, i64_w, i32_w];rfl);refine pure_ (i := 3) (N := some 44) (v := ?_) (a' := ?_) impl_YardOk.bt3_ rfl rfl (any_of HT_.out (by kernel_rfl)) (fun _ _ _ h => h) (Or.inl ⟨by rfl, ?_⟩) ?_ ?_;rotate_left;(intro w';go_simp;with_reducible rfl);rotate_left;(simp only [Act.put, sx_, sy_, sz_, i64_w, i32_w];rfl);refine take_ (i := 1) (N := some 42) (v := ?_) (a' := ?_) impl_YardOk.bt4_ rfl rfl (take_ofW HT_.out HW_.out (by kernel_rfl)) (fun _ _ _ h => h) (Or.inl ⟨by rfl, ?_⟩) hHeld ?_ ?_;rotate_left;(rintro w' ⟨s0, s1, s2, s3, s4, s5, s6⟩;go_simp;with_reducible rfl);rotate_left;(simp only [Act.put, sx_, sy_, sz_, i64_w, i32_w];rfl);refine take_ (i := 4) (N := some 45) (v := ?_) (a' := ?_) impl_YardOk.bt5_ rfl rfl (take_ofW HT_.out HW_.out (by kernel_rfl)) (fun _ _ _ h => h) (Or.inl ⟨by rfl, ?_⟩) hHeld ?_ ?_;rotate_left;(rintro w' ⟨s0, s1, s2, s3, s4, s5, s6⟩;go_simp;with_reducible rfl);rotate_left;(simp only [Act.put, sx_, sy_, sz_, i64_w, i32_w];rfl);refine one_ (i := 5) (N := some 46) impl_YardOk.bt6_ rfl rfl (one_of HT_.out (by kernel_rfl)) (by decide) (fun K hK => ?_);refine goes_ Try.func44 (by kernel_rfl) rfl #[.int .i64 ((rd_T41 l0_3 x36_2).f1), .int .i64 x3_2, .int .i64 a0_4] (by rfl) rfl rfl gl ?_
           with_reducible refine (impl_in.calls ((rd_T41 l0_3 x36_2).f1) x3_2 a0_4 false _ A30.out).mono ?_
           rintro e w' ⟨rfl, ⟨nd, rfl⟩⟩;refine ⟨_, rfl, ?_⟩;refine hK.out _ _ ⟨(blk_cell BK149.out 0).trans rfl, (blk_cell BK149.out 1).trans rfl, (blk_cell BK143.out 0).trans rfl, (blk_cell BK143.out 1).trans rfl, (blk_cell BK143.out 2).trans rfl, (blk_cell BK143.out 3).trans rfl, (blk_cell BK143.out 4).trans rfl⟩ (fun hHeld => ?_);clear hK K;refine norm_ (a' := ?_) ?_ ?_;rotate_left;(show Act.put _ (some 46) _ = _;simp only [Act.put, sx_, sy_, sz_, i64_w, i32_w];rfl);refine pure_ (i := 6) (N := some 47) (v := ?_) (a' := ?_) impl_YardOk.bt7_ rfl rfl (any_of HT_.out (by kernel_rfl)) (fun _ _ _ h => h) (Or.inl ⟨by rfl, ?_⟩) ?_ ?_;rotate_left;(intro w';go_simp;with_reducible rfl);rotate_left;(simp only [Act.put, sx_, sy_, sz_, i64_w, i32_w];rfl);refine pure_ (i := 7) (N := some 48) (v := ?_) (a' := ?_) impl_YardOk.bt8_ rfl rfl (any_of HT_.out (by kernel_rfl)) (fun _ _ _ h => h) (Or.inl ⟨by rfl, ?_⟩) ?_ ?_;rotate_left;(intro w';go_simp;with_reducible rfl);rotate_left;(simp only [Act.put, sx_, sy_, sz_, i64_w, i32_w];rfl);refine pure_ (i := 8) (N := some 49) (v := undef) (a' := ?_) impl_YardOk.bt9_ rfl rfl (any_of HT_.out (by kernel_rfl)) (fun _ _ _ h => h) (Or.inr ⟨by rfl, rfl⟩) ?_ ?_;rotate_left
           ·simp only [Act.put, sx_, sy_, sz_, i64_w, i32_w]
            rfl
           refine pure_ (i := 9) (N := some 50) (v := undef) (a' := ?_) impl_YardOk.bt28_ rfl rfl (any_of HT_.out (by kernel_rfl)) (fun _ _ _ h => h) (Or.inr ⟨by rfl, rfl⟩) ?_ ?_;rotate_left
           ·simp only [Act.put, sx_, sy_, sz_, i64_w, i32_w]
            rfl
           refine pure_ (i := 10) (N := some 51) (v := undef) (a' := ?_) impl_YardOk.bt11_ rfl rfl (any_of HT_.out (by kernel_rfl)) (fun _ _ _ h => h) (Or.inr ⟨by rfl, rfl⟩) ?_ ?_;rotate_left
           ·simp only [Act.put, sx_, sy_, sz_, i64_w, i32_w]
            rfl
           refine pure_ (i := 11) (N := some 52) (v := undef) (a' := ?_) impl_YardOk.bt12_ rfl rfl (any_of HT_.out (by kernel_rfl)) (fun _ _ _ h => h) (Or.inr ⟨by rfl, rfl⟩) ?_ ?_;rotate_left
           ·simp only [Act.put, sx_, sy_, sz_, i64_w, i32_w]
            rfl
           refine pure_ (i := 12) (N := some 53) (v := undef) (a' := ?_) impl_YardOk.bt13_ rfl rfl (any_of HT_.out (by kernel_rfl)) (fun _ _ _ h => h) (Or.inr ⟨by rfl, rfl⟩) ?_ ?_;rotate_left
           ·simp only [Act.put, sx_, sy_, sz_, i64_w, i32_w]
            rfl
           refine pure_ (i := 13) (N := some 54) (v := undef) (a' := ?_) impl_YardOk.bt14_ rfl rfl (any_of HT_.out (by kernel_rfl)) (fun _ _ _ h => h) (Or.inr ⟨by rfl, rfl⟩) ?_ ?_;rotate_left
           ·simp only [Act.put, sx_, sy_, sz_, i64_w, i32_w]
            rfl
           refine pure_ (i := 14) (N := some 55) (v := ?_) (a' := ?_) impl_YardOk.bt15_ rfl rfl (any_of HT_.out (by kernel_rfl)) (fun _ _ _ h => h) (Or.inl ⟨by rfl, ?_⟩) ?_ ?_;rotate_left;(intro w';go_simp;with_reducible rfl);rotate_left;(simp only [Act.put, sx_, sy_, sz_, i64_w, i32_w];rfl);refine pure_ (i := 15) (N := some 56) (v := ?_) (a' := ?_) impl_YardOk.bt16_ rfl rfl (any_of HT_.out (by kernel_rfl)) (fun _ _ _ h => h) (Or.inl ⟨by rfl, ?_⟩) ?_ ?_;rotate_left;(intro w';go_simp;with_reducible rfl);rotate_left;(simp only [Act.put, sx_, sy_, sz_, i64_w, i32_w];rfl);refine pure_ (i := 16) (N := some 57) (v := undef) (a' := ?_) impl_YardOk.bt17_ rfl rfl (any_of HT_.out (by kernel_rfl)) (fun _ _ _ h => h) (Or.inr ⟨by rfl, rfl⟩) ?_ ?_;rotate_left
           ·simp only [Act.put, sx_, sy_, sz_, i64_w, i32_w]
            rfl
           refine pure_ (i := 17) (N := some 58) (v := undef) (a' := ?_) impl_YardOk.bt25_ rfl rfl (any_of HT_.out (by kernel_rfl)) (fun _ _ _ h => h) (Or.inr ⟨by rfl, rfl⟩) ?_ ?_;rotate_left
           ·simp only [Act.put, sx_, sy_, sz_, i64_w, i32_w]
            rfl
           refine pure_ (i := 18) (N := some 59) (v := undef) (a' := ?_) impl_YardOk.bt26_ rfl rfl (any_of HT_.out (by kernel_rfl)) (fun _ _ _ h => h) (Or.inr ⟨by rfl, rfl⟩) ?_ ?_;rotate_left
           ·simp only [Act.put, sx_, sy_, sz_, i64_w, i32_w]
            rfl
           refine pure_ (i := 19) (N := some 60) (v := undef) (a' := ?_) impl_YardOk.bt27_ rfl rfl (any_of HT_.out (by kernel_rfl)) (fun _ _ _ h => h) (Or.inr ⟨by rfl, rfl⟩) ?_ ?_;rotate_left
           ·simp only [Act.put, sx_, sy_, sz_, i64_w, i32_w]
            rfl
           refine pure_ (i := 20) (N := some 61) (v := undef) (a' := ?_) impl_YardOk.bt21_ rfl rfl (any_of HT_.out (by kernel_rfl)) (fun _ _ _ h => h) (Or.inr ⟨by rfl, rfl⟩) ?_ ?_;rotate_left
           ·simp only [Act.put, sx_, sy_, sz_, i64_w, i32_w]
            rfl
           refine pure_ (i := 21) (N := some 62) (v := undef) (a' := ?_) impl_YardOk.bt22_ rfl rfl (any_of HT_.out (by kernel_rfl)) (fun _ _ _ h => h) (Or.inr ⟨by rfl, rfl⟩) ?_ ?_;rotate_left
           ·simp only [Act.put, sx_, sy_, sz_, i64_w, i32_w]
            rfl
           refine pure_ (i := 22) (N := some 63) (v := undef) (a' := ?_) impl_YardOk.bt23_ rfl rfl (any_of HT_.out (by kernel_rfl)) (fun _ _ _ h => h) (Or.inr ⟨by rfl, rfl⟩) ?_ ?_;rotate_left
           ·simp only [Act.put, sx_, sy_, sz_, i64_w, i32_w]
            rfl
           refine pure_ (i := 23) (N := some 64) (v := ?_) (a' := ?_) impl_YardOk.bt24_ rfl rfl (any_of HT_.out (by kernel_rfl)) (fun _ _ _ h => h) (Or.inl ⟨by rfl, ?_⟩) ?_ ?_;rotate_left;(intro w';go_simp;with_reducible rfl);rotate_left;(simp only [Act.put, sx_, sy_, sz_, i64_w, i32_w];rfl);refine done_ (done_of HT_.out (by kernel_rfl)) ?_
           try go_wp2
           go_ret
           exact ⟨er, bw2 HB.out GE143.out GE149.out⟩
         ·rw [if_neg c29] at H
          exact absurd H (by simp)
        ·rw [if_neg c28] at H
         exact absurd H (by simp)
       ·rw [if_neg c27] at H
        have c27b0 : decide (x36_2 < (l0_3.length : Int)) = false := decide_eq_false c27;clear c27;(first | rw [c27b0] | (simp only [i64_w, i32_w]; rw [c27b0]) | skip)
        obtain rfl := Option.some.inj H;go_wp2
        go_ret
        exact ⟨er, bw1 HB.out GE143.out⟩


end Go.Proofs.Ytemdjfiimgjiaaa.S
