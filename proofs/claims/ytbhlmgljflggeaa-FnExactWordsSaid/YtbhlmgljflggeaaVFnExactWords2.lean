/- What the Go functions that the law FnExactWords reaches compute, as plain Lean functions, and that their calls come to just that. Conditions: those that each theorem states. Written by the session's program. -/
import Derived.Test.YtbhlmgljflggeaaM0
import Derived.Test.YtbhlmgljflggeaaVFnExactWords1
namespace Go.Proofs.Ytbhlmgljflggeaa.M
open Go.RowKit Go.Proofs.YtbhlmgljflggeaaW.PrintWords Go.Proofs.YtbhlmgljflggeaaW.PrintLast Go.Proofs.YtbhlmgljflggeaaW.PrintMore
attribute [local go_sem] max2_int min2_int max_two min_two max_three min_three max_four min_four   -- for this text's walks alone
set_option linter.unusedVariables false
set_option linter.unusedSimpArgs false

mutual
def laws_FnExactWords.j0 : Nat → List Int → List (S31) → List Int → List Int → Bool → List Int → List (S34) → List Int → List Int → Bool → Bool → Option (Bool)
  | 0, _, _, _, _, _, _, _, _, _, _, _ => none
  | k + 1, x0, x1, x6, x7, x8, x9, x10, x11, x12, x13, x62 => if x62 = true then (some false) else ((laws_toIntS.f k x0).bind fun t778 => ((laws_eqIntS.f k x9 t778).bind fun t781 => (if t781 = true then ((laws_toWordOpS.f k x1).bind fun t782 => ((laws_eqWordOpS.f k x10 t782).bind fun t785 => (if t785 = true then ((laws_markIntS.f k x9 1).bind fun bt786 => ((laws_markWordOpS.f k x10 bt786.1).bind fun bt788 => (if bt788.1 < 0 then (laws_FnExactWords.j1 k x0 x1 x6 x7 x8 x11 x12 true) else ((laws_eqIntS.f k x11 x6).bind fun t790 => (if t790 = true then ((laws_eqIntS.f k x12 x7).bind fun t791 => (if t791 = true then (laws_FnExactWords.j1 k x0 x1 x6 x7 x8 x11 x12 (x13 != x8)) else (laws_FnExactWords.j1 k x0 x1 x6 x7 x8 x11 x12 true))) else (laws_FnExactWords.j1 k x0 x1 x6 x7 x8 x11 x12 true)))))) else (some false)))) else (some false))))
def laws_FnExactWords.j1 : Nat → List Int → List (S31) → List Int → List Int → Bool → List Int → List Int → Bool → Option (Bool)
  | 0, _, _, _, _, _, _, _, _ => none
  | k + 1, x0, x1, x6, x7, x8, x11, x12, x97 => if x97 = true then (some false) else ((laws_markIntS.f k x11 1).bind fun bt792 => ((laws_markIntS.f k x12 bt792.1).bind fun bt794 => ((laws_heldIntS.f k bt792.2 1).bind fun t796 => (if t796 < 0 then (some false) else ((laws_heldIntS.f k bt794.2 t796).bind fun t797 => (if t797 < 0 then (some false) else (if t797 = bt794.1 then ((laws_toIntS.f k x0).bind fun t798 => ((laws_toWordOpS.f k x1).bind fun t801 => ((impl_Words.f k t798 t801).bind fun bt804 => ((laws_eqIntS.f k bt804.1 x6).bind fun t811 => (if t811 = true then ((laws_eqIntS.f k bt804.2.1 x7).bind fun t812 => (if t812 = true then (laws_FnExactWords.j2 k bt792.2 bt794.2 bt794.1 (bt804.2.2 != x8)) else (laws_FnExactWords.j2 k bt792.2 bt794.2 bt794.1 true))) else (laws_FnExactWords.j2 k bt792.2 bt794.2 bt794.1 true)))))) else (some false))))))))
def laws_FnExactWords.j2 : Nat → List Int → List Int → Int → Bool → Option (Bool)
  | 0, _, _, _, _ => none
  | k + 1, x11, x12, x15, x140 => if x140 = true then (some false) else ((laws_heldIntS.f k x11 1).bind fun t813 => (if t813 < 0 then (some false) else ((laws_heldIntS.f k x12 t813).bind fun t814 => (if t814 < 0 then (some false) else (if t814 = x15 then (some true) else (some false))))))
end
def laws_FnExactWords.f (k : Nat) (l0 : List Int) (l1 : List (S31)) : Option (Bool) := if (l0.length : Int) > 1048576 then (some true) else ((laws_szWordOpS.f l1 1048576).bind fun t749 => (if t749 < 0 then (some true) else ((laws_toIntS.f k l0).bind fun t750 => ((laws_toWordOpS.f k l1).bind fun t753 => ((spec_Words.f k t750 t753).bind fun bt756 => ((laws_toIntS.f k l0).bind fun t763 => ((laws_toWordOpS.f k l1).bind fun t766 => ((impl_Words.f k t763 t766).bind fun bt769 => ((laws_eqIntS.f k bt769.1 bt756.1).bind fun t776 => (if t776 = true then ((laws_eqIntS.f k bt769.2.1 bt756.2.1).bind fun t777 => (if t777 = true then (laws_FnExactWords.j0 k l0 l1 bt756.1 bt756.2.1 bt756.2.2 t763 t766 bt769.1 bt769.2.1 bt769.2.2 (bt769.2.2 != bt756.2.2)) else (laws_FnExactWords.j0 k l0 l1 bt756.1 bt756.2.1 bt756.2.2 t763 t766 bt769.1 bt769.2.1 bt769.2.2 true))) else (laws_FnExactWords.j0 k l0 l1 bt756.1 bt756.2.1 bt756.2.2 t763 t766 bt769.1 bt769.2.1 bt769.2.2 true)))))))))))
set_option maxHeartbeats 8000000 in
set_option maxRecDepth 100000 in
theorem laws_FnExactWords.calls (k : Nat) (A0 : Option Addr) (c0 : Nat) (l0 : List Int) (A1 : Option Addr) (c1 : Nat) (l1 : List (S31)) (w : World) (hr0 : Kd.C (Kd.int .i64) w A0 l0.length l0) (hc0 : l0.length ≤ c0) (hr1 : Kd.C k31 w A1 l1.length l1) (hc1 : l1.length ≤ c1) (h : laws_FnExactWords.f k l0 l1 = some true) :
    Calls Try.prog 8 #[.slice A0 l0.length c0, .slice A1 l1.length c1] w fun e w' => e = .returned (.bool true) ∧ Below w.heap.size w w' := by
  have HR0 := Aside0.mk hr0
  have HC0 := Aside0.mk hc0
  clear hr0 hc0
  have HR1 := Aside0.mk hr1
  have HC1 := Aside0.mk hc1
  clear hr1 hc1
  have HB := Aside0.mk (Below.refl w.heap.size w)
  have H : (if (l0.length : Int) > 1048576 then (some true) else ((laws_szWordOpS.f l1 1048576).bind fun t749 => (if t749 < 0 then (some true) else ((laws_toIntS.f k l0).bind fun t750 => ((laws_toWordOpS.f k l1).bind fun t753 => ((spec_Words.f k t750 t753).bind fun bt756 => ((laws_toIntS.f k l0).bind fun t763 => ((laws_toWordOpS.f k l1).bind fun t766 => ((impl_Words.f k t763 t766).bind fun bt769 => ((laws_eqIntS.f k bt769.1 bt756.1).bind fun t776 => (if t776 = true then ((laws_eqIntS.f k bt769.2.1 bt756.2.1).bind fun t777 => (if t777 = true then (laws_FnExactWords.j0 k l0 l1 bt756.1 bt756.2.1 bt756.2.2 t763 t766 bt769.1 bt769.2.1 bt769.2.2 (bt769.2.2 != bt756.2.2)) else (laws_FnExactWords.j0 k l0 l1 bt756.1 bt756.2.1 bt756.2.2 t763 t766 bt769.1 bt769.2.1 bt769.2.2 true))) else (laws_FnExactWords.j0 k l0 l1 bt756.1 bt756.2.1 bt756.2.2 t763 t766 bt769.1 bt769.2.1 bt769.2.2 true)))))))))))) = some true := h
  clear h
  by_cases c3 : (l0.length : Int) > 1048576
  · rw [if_pos c3] at H
    have c3b0 : decide (1048576 < (l0.length : Int)) = true := decide_eq_true c3
    have c3b1 : decide (1048576 < l0.length) = true := decide_eq_true (by omega)
    clear c3
    clear H
    go_enter Try.func8, Try.ntmps8
    go_wp2
    go_ret
    (try rw [HT_.out])
    (try simp only [HT_.out])
    exact ⟨by first | rfl | (simp [errW_none, errW_some] <;> rfl) | (simp [*, errW_none, errW_some] <;> rfl), by repeat (first | (with_reducible first | exact HB.out | apply below_alloc | apply pw_below_drewN | apply below_drew1) | exact HB.out)⟩
  · rw [if_neg c3] at H
    have c3b0 : decide (1048576 < (l0.length : Int)) = false := decide_eq_false c3
    have c3b1 : decide (1048576 < l0.length) = false := decide_eq_false (by omega)
    clear c3
    replace H := Option.bind_eq_some_iff.mp H
    obtain ⟨t749, A40, H⟩ := H
    replace H : (if t749 < 0 then (some true) else ((laws_toIntS.f k l0).bind fun t750 => ((laws_toWordOpS.f k l1).bind fun t753 => ((spec_Words.f k t750 t753).bind fun bt756 => ((laws_toIntS.f k l0).bind fun t763 => ((laws_toWordOpS.f k l1).bind fun t766 => ((impl_Words.f k t763 t766).bind fun bt769 => ((laws_eqIntS.f k bt769.1 bt756.1).bind fun t776 => (if t776 = true then ((laws_eqIntS.f k bt769.2.1 bt756.2.1).bind fun t777 => (if t777 = true then (laws_FnExactWords.j0 k l0 l1 bt756.1 bt756.2.1 bt756.2.2 t763 t766 bt769.1 bt769.2.1 bt769.2.2 (bt769.2.2 != bt756.2.2)) else (laws_FnExactWords.j0 k l0 l1 bt756.1 bt756.2.1 bt756.2.2 t763 t766 bt769.1 bt769.2.1 bt769.2.2 true))) else (laws_FnExactWords.j0 k l0 l1 bt756.1 bt756.2.1 bt756.2.2 t763 t766 bt769.1 bt769.2.1 bt769.2.2 true)))))))))) = some true := H
    have A4 := Aside0.mk A40
    clear A40
    by_cases c5 : t749 < 0
    · rw [if_pos c5] at H
      have c5b0 : decide (t749 < 0) = true := decide_eq_true c5
      clear c5
      clear H
      go_enter Try.func8, Try.ntmps8
      go_wp2_with (first | ((with_reducible refine gate_callee (f := 22) rfl ?_); refine goesL_ (some 25) rfl rfl Try.func22 (by kernel_rfl) rfl #[.slice A1 l1.length c1, .int .i64 1048576] rfl (by (try simp only [List.map_toArray, List.map_cons, List.map_nil]); first | done | rfl | (simp only [List.length_drop, List.length_take]; rfl)) ?_; (with_reducible refine (laws_szWordOpS.calls _ _ l1 1048576 t749 _ ?side1 ?side2 A4.out).mono ?_); (case side1 => repeat (first | exact HR1.out | (with_reducible refine Kd.C_alloc ?_ _) | (with_reducible refine Kd.C_drewN ?_ _) | (with_reducible refine Kd.C_drew ?_))); (case side2 => exact HC1.out); rintro e w' ⟨rfl, ⟨nd, rfl⟩⟩; refine ⟨_, rfl, ?_⟩))
      go_ret
      (try rw [HT_.out])
      (try simp only [HT_.out])
      exact ⟨by first | rfl | (simp [errW_none, errW_some] <;> rfl) | (simp [*, errW_none, errW_some] <;> rfl), by repeat (first | (with_reducible first | exact HB.out | apply below_alloc | apply pw_below_drewN | apply below_drew1) | exact HB.out)⟩
    · rw [if_neg c5] at H
      have c5b0 : decide (t749 < 0) = false := decide_eq_false c5
      clear c5
      replace H := Option.bind_eq_some_iff.mp H
      obtain ⟨t750, A60, H⟩ := H
      replace H : ((laws_toWordOpS.f k l1).bind fun t753 => ((spec_Words.f k t750 t753).bind fun bt756 => ((laws_toIntS.f k l0).bind fun t763 => ((laws_toWordOpS.f k l1).bind fun t766 => ((impl_Words.f k t763 t766).bind fun bt769 => ((laws_eqIntS.f k bt769.1 bt756.1).bind fun t776 => (if t776 = true then ((laws_eqIntS.f k bt769.2.1 bt756.2.1).bind fun t777 => (if t777 = true then (laws_FnExactWords.j0 k l0 l1 bt756.1 bt756.2.1 bt756.2.2 t763 t766 bt769.1 bt769.2.1 bt769.2.2 (bt769.2.2 != bt756.2.2)) else (laws_FnExactWords.j0 k l0 l1 bt756.1 bt756.2.1 bt756.2.2 t763 t766 bt769.1 bt769.2.1 bt769.2.2 true))) else (laws_FnExactWords.j0 k l0 l1 bt756.1 bt756.2.1 bt756.2.2 t763 t766 bt769.1 bt769.2.1 bt769.2.2 true)))))))) = some true := H
      have A6 := Aside0.mk A60
      clear A60
      replace H := Option.bind_eq_some_iff.mp H
      obtain ⟨t753, A70, H⟩ := H
      replace H : ((spec_Words.f k t750 t753).bind fun bt756 => ((laws_toIntS.f k l0).bind fun t763 => ((laws_toWordOpS.f k l1).bind fun t766 => ((impl_Words.f k t763 t766).bind fun bt769 => ((laws_eqIntS.f k bt769.1 bt756.1).bind fun t776 => (if t776 = true then ((laws_eqIntS.f k bt769.2.1 bt756.2.1).bind fun t777 => (if t777 = true then (laws_FnExactWords.j0 k l0 l1 bt756.1 bt756.2.1 bt756.2.2 t763 t766 bt769.1 bt769.2.1 bt769.2.2 (bt769.2.2 != bt756.2.2)) else (laws_FnExactWords.j0 k l0 l1 bt756.1 bt756.2.1 bt756.2.2 t763 t766 bt769.1 bt769.2.1 bt769.2.2 true))) else (laws_FnExactWords.j0 k l0 l1 bt756.1 bt756.2.1 bt756.2.2 t763 t766 bt769.1 bt769.2.1 bt769.2.2 true))))))) = some true := H
      have A7 := Aside0.mk A70
      clear A70
      replace H := Option.bind_eq_some_iff.mp H
      obtain ⟨⟨t756, t757, t758⟩, A80, H⟩ := H
      replace H : ((laws_toIntS.f k l0).bind fun t763 => ((laws_toWordOpS.f k l1).bind fun t766 => ((impl_Words.f k t763 t766).bind fun bt769 => ((laws_eqIntS.f k bt769.1 t756).bind fun t776 => (if t776 = true then ((laws_eqIntS.f k bt769.2.1 t757).bind fun t777 => (if t777 = true then (laws_FnExactWords.j0 k l0 l1 t756 t757 t758 t763 t766 bt769.1 bt769.2.1 bt769.2.2 (bt769.2.2 != t758)) else (laws_FnExactWords.j0 k l0 l1 t756 t757 t758 t763 t766 bt769.1 bt769.2.1 bt769.2.2 true))) else (laws_FnExactWords.j0 k l0 l1 t756 t757 t758 t763 t766 bt769.1 bt769.2.1 bt769.2.2 true)))))) = some true := H
      have A8 := Aside0.mk A80
      clear A80
      replace H := Option.bind_eq_some_iff.mp H
      obtain ⟨t763, A90, H⟩ := H
      replace H : ((laws_toWordOpS.f k l1).bind fun t766 => ((impl_Words.f k t763 t766).bind fun bt769 => ((laws_eqIntS.f k bt769.1 t756).bind fun t776 => (if t776 = true then ((laws_eqIntS.f k bt769.2.1 t757).bind fun t777 => (if t777 = true then (laws_FnExactWords.j0 k l0 l1 t756 t757 t758 t763 t766 bt769.1 bt769.2.1 bt769.2.2 (bt769.2.2 != t758)) else (laws_FnExactWords.j0 k l0 l1 t756 t757 t758 t763 t766 bt769.1 bt769.2.1 bt769.2.2 true))) else (laws_FnExactWords.j0 k l0 l1 t756 t757 t758 t763 t766 bt769.1 bt769.2.1 bt769.2.2 true))))) = some true := H
      have A9 := Aside0.mk A90
      clear A90
      replace H := Option.bind_eq_some_iff.mp H
      obtain ⟨t766, A100, H⟩ := H
      replace H : ((impl_Words.f k t763 t766).bind fun bt769 => ((laws_eqIntS.f k bt769.1 t756).bind fun t776 => (if t776 = true then ((laws_eqIntS.f k bt769.2.1 t757).bind fun t777 => (if t777 = true then (laws_FnExactWords.j0 k l0 l1 t756 t757 t758 t763 t766 bt769.1 bt769.2.1 bt769.2.2 (bt769.2.2 != t758)) else (laws_FnExactWords.j0 k l0 l1 t756 t757 t758 t763 t766 bt769.1 bt769.2.1 bt769.2.2 true))) else (laws_FnExactWords.j0 k l0 l1 t756 t757 t758 t763 t766 bt769.1 bt769.2.1 bt769.2.2 true)))) = some true := H
      have A10 := Aside0.mk A100
      clear A100
      replace H := Option.bind_eq_some_iff.mp H
      obtain ⟨⟨t769, t770, t771⟩, A110, H⟩ := H
      replace H : ((laws_eqIntS.f k t769 t756).bind fun t776 => (if t776 = true then ((laws_eqIntS.f k t770 t757).bind fun t777 => (if t777 = true then (laws_FnExactWords.j0 k l0 l1 t756 t757 t758 t763 t766 t769 t770 t771 (t771 != t758)) else (laws_FnExactWords.j0 k l0 l1 t756 t757 t758 t763 t766 t769 t770 t771 true))) else (laws_FnExactWords.j0 k l0 l1 t756 t757 t758 t763 t766 t769 t770 t771 true))) = some true := H
      have A11 := Aside0.mk A110
      clear A110
      have HC12 := Aside0.mk H
      clear H
      go_enter Try.func8, Try.ntmps8
      go_upto_region 11 with (first | ((with_reducible refine gate_callee (f := 22) rfl ?_); refine goesL_ (some 25) rfl rfl Try.func22 (by kernel_rfl) rfl #[.slice A1 l1.length c1, .int .i64 1048576] rfl (by (try simp only [List.map_toArray, List.map_cons, List.map_nil]); first | done | rfl | (simp only [List.length_drop, List.length_take]; rfl)) ?_; (with_reducible refine (laws_szWordOpS.calls _ _ l1 1048576 t749 _ ?side1 ?side2 A4.out).mono ?_); (case side1 => repeat (first | exact HR1.out | (with_reducible refine Kd.C_alloc ?_ _) | (with_reducible refine Kd.C_drewN ?_ _) | (with_reducible refine Kd.C_drew ?_))); (case side2 => exact HC1.out); rintro e w' ⟨rfl, ⟨nd, rfl⟩⟩; refine ⟨_, rfl, ?_⟩) | ((with_reducible refine gate_callee (f := 12) rfl ?_); refine goesL_ (some 30) rfl rfl Try.func12 (by kernel_rfl) rfl #[.slice A0 l0.length c0] rfl (by (try simp only [List.map_toArray, List.map_cons, List.map_nil]); first | done | rfl | (simp only [List.length_drop, List.length_take]; rfl)) ?_; (with_reducible refine (laws_toIntS.calls k _ _ l0 t750 _ ?side1 ?side2 A6.out).mono ?_); (case side1 => repeat (first | exact HR0.out | (with_reducible refine Kd.C_alloc ?_ _) | (with_reducible refine Kd.C_drewN ?_ _) | (with_reducible refine Kd.C_drew ?_))); (case side2 => exact HC0.out); rintro e w13 ⟨v751, rfl, ho0, hb⟩; refine ⟨_, rfl, ?_⟩; have n0_ := Aside0.mk (Kd.R_lower ho0 (below_size (by repeat (first | (with_reducible first | exact HB.out | apply below_alloc | apply pw_below_drewN | apply below_drew1) | exact HB.out)))); have n1_ := Aside0.mk (below_step (by repeat (first | (with_reducible first | exact HB.out | apply below_alloc | apply pw_below_drewN | apply below_drew1) | exact HB.out)) hb); clear HB; have HO752 := n0_; have HB := n1_; clear n0_ n1_; (try clear hb); (try clear hb2); (try clear hk); (try clear hi); (try clear ho0)) | ((with_reducible refine gate_callee (f := 24) rfl ?_); refine goesL_ (some 32) rfl rfl Try.func24 (by kernel_rfl) rfl #[.slice A1 l1.length c1] rfl (by (try simp only [List.map_toArray, List.map_cons, List.map_nil]); first | done | rfl | (simp only [List.length_drop, List.length_take]; rfl)) ?_; (with_reducible refine (laws_toWordOpS.calls k _ _ l1 t753 _ ?side1 ?side2 A7.out).mono ?_); (case side1 => repeat (first | exact (Kd.C_below HR1.out HB.out) | (with_reducible refine Kd.C_alloc ?_ _) | (with_reducible refine Kd.C_drewN ?_ _) | (with_reducible refine Kd.C_drew ?_))); (case side2 => exact HC1.out); rintro e w14 ⟨v754, rfl, ho0, hb⟩; refine ⟨_, rfl, ?_⟩; have n0_ := Aside0.mk (Kd.R_below (by (with_reducible repeat (first | apply Kd.R_alloc | apply Kd.R_drewN | apply Kd.R_drew)); exact HO752.out) hb); have n1_ := Aside0.mk (Kd.R_lower ho0 (below_size (by repeat (first | (with_reducible first | exact HB.out | apply below_alloc | apply pw_below_drewN | apply below_drew1) | exact HB.out)))); have n2_ := Aside0.mk (below_step (by repeat (first | (with_reducible first | exact HB.out | apply below_alloc | apply pw_below_drewN | apply below_drew1) | exact HB.out)) hb); clear HO752; clear HB; have HO752 := n0_; have HO755 := n1_; have HB := n2_; clear n0_ n1_ n2_; (try clear hb); (try clear hb2); (try clear hk); (try clear hi); (try clear ho0); obtain ⟨Ao15, co15, eo15⟩ := Kd.R_slice HO752.out; subst eo15; obtain ⟨Ao16, co16, eo16⟩ := Kd.R_slice HO755.out; subst eo16) | ((with_reducible refine gate_callee (f := 36) rfl ?_); refine goesL_ (some 33) rfl rfl Try.func36 (by kernel_rfl) rfl #[.slice Ao15 t750.length co15, .slice Ao16 t753.length co16] rfl (by (try simp only [List.map_toArray, List.map_cons, List.map_nil]); first | done | rfl | (simp only [List.length_drop, List.length_take]; rfl)) ?_; (with_reducible refine (spec_Words.calls k _ _ t750 _ _ t753 t756 t757 t758 _ ?side1 ?side2 ?side3 ?side4 A8.out).mono ?_); (case side1 => repeat (first | exact (Kd.R_reads' HO752.out).2.2 | (with_reducible refine Kd.C_alloc ?_ _) | (with_reducible refine Kd.C_drewN ?_ _) | (with_reducible refine Kd.C_drew ?_))); (case side2 => exact (Kd.R_reads' HO752.out).2.1); (case side3 => repeat (first | exact (Kd.R_reads' HO755.out).2.2 | (with_reducible refine Kd.C_alloc ?_ _) | (with_reducible refine Kd.C_drewN ?_ _) | (with_reducible refine Kd.C_drew ?_))); (case side4 => exact (Kd.R_reads' HO755.out).2.1); rintro e w17 ⟨v759, v761, rfl, ho0, ho1, hb⟩; refine ⟨_, rfl, ?_⟩; have n0_ := Aside0.mk (Kd.R_mono (Kd.R_told (Kd.R_told (Kd.R_old (by (with_reducible repeat (first | apply Kd.R_alloc | apply Kd.R_drewN | apply Kd.R_drew)); exact HO752.out) hb) (Kd.R_base ho0)) (Kd.R_base ho1)) (fun _ h_ => h_.1)); have n1_ := Aside0.mk (Kd.R_below (by (with_reducible repeat (first | apply Kd.R_alloc | apply Kd.R_drewN | apply Kd.R_drew)); exact HO755.out) hb); have n2_ := Aside0.mk (Kd.R_lower (Kd.R_new' ho0 (Kd.R_lt (by (with_reducible repeat (first | apply Kd.R_alloc | apply Kd.R_drewN | apply Kd.R_drew)); exact HO752.out))) (below_size (by repeat (first | (with_reducible first | exact HB.out | apply below_alloc | apply pw_below_drewN | apply below_drew1) | exact HB.out)))); have n3_ := Aside0.mk (Kd.R_lower (Kd.R_new' ho1 (Kd.R_lt (by (with_reducible repeat (first | apply Kd.R_alloc | apply Kd.R_drewN | apply Kd.R_drew)); exact HO752.out))) (below_size (by repeat (first | (with_reducible first | exact HB.out | apply below_alloc | apply pw_below_drewN | apply below_drew1) | exact HB.out)))); have n4_ := Aside0.mk (below_step (by repeat (first | (with_reducible first | exact HB.out | apply below_alloc | apply pw_below_drewN | apply below_drew1) | exact HB.out)) hb); clear HO752; clear HO755; clear HB; have HO752 := n0_; have HO755 := n1_; have HO760 := n2_; have HO762 := n3_; have HB := n4_; clear n0_ n1_ n2_ n3_ n4_; (try clear hb); (try clear hb2); (try clear hk); (try clear hi); (try clear ho0); (try clear ho1)) | ((with_reducible refine gate_callee (f := 12) rfl ?_); refine goesL_ (some 38) rfl rfl Try.func12 (by kernel_rfl) rfl #[.slice A0 l0.length c0] rfl (by (try simp only [List.map_toArray, List.map_cons, List.map_nil]); first | done | rfl | (simp only [List.length_drop, List.length_take]; rfl)) ?_; (with_reducible refine (laws_toIntS.calls k _ _ l0 t763 _ ?side1 ?side2 A9.out).mono ?_); (case side1 => repeat (first | exact (Kd.C_below HR0.out HB.out) | (with_reducible refine Kd.C_alloc ?_ _) | (with_reducible refine Kd.C_drewN ?_ _) | (with_reducible refine Kd.C_drew ?_))); (case side2 => exact HC0.out); rintro e w18 ⟨v764, rfl, ho0, hb⟩; refine ⟨_, rfl, ?_⟩; have n0_ := Aside0.mk (Kd.R_elder' (by (with_reducible repeat (first | apply Kd.R_alloc | apply Kd.R_drewN | apply Kd.R_drew)); exact HO752.out) (Kd.R_base ho0) hb); have n1_ := Aside0.mk (Kd.R_below (by (with_reducible repeat (first | apply Kd.R_alloc | apply Kd.R_drewN | apply Kd.R_drew)); exact HO755.out) hb); have n2_ := Aside0.mk (Kd.R_elder' (by (with_reducible repeat (first | apply Kd.R_alloc | apply Kd.R_drewN | apply Kd.R_drew)); exact HO760.out) (Kd.R_base ho0) hb); have n3_ := Aside0.mk (Kd.R_elder' (by (with_reducible repeat (first | apply Kd.R_alloc | apply Kd.R_drewN | apply Kd.R_drew)); exact HO762.out) (Kd.R_base ho0) hb); have n4_ := Aside0.mk (Kd.R_lower (Kd.R_new' (Kd.R_new' (Kd.R_new' ho0 (Kd.R_lt (by (with_reducible repeat (first | apply Kd.R_alloc | apply Kd.R_drewN | apply Kd.R_drew)); exact HO752.out))) (Kd.R_lt (by (with_reducible repeat (first | apply Kd.R_alloc | apply Kd.R_drewN | apply Kd.R_drew)); exact HO760.out))) (Kd.R_lt (by (with_reducible repeat (first | apply Kd.R_alloc | apply Kd.R_drewN | apply Kd.R_drew)); exact HO762.out))) (below_size (by repeat (first | (with_reducible first | exact HB.out | apply below_alloc | apply pw_below_drewN | apply below_drew1) | exact HB.out)))); have n5_ := Aside0.mk (below_step (by repeat (first | (with_reducible first | exact HB.out | apply below_alloc | apply pw_below_drewN | apply below_drew1) | exact HB.out)) hb); clear HO752; clear HO755; clear HO760; clear HO762; clear HB; have HO752 := n0_; have HO755 := n1_; have HO760 := n2_; have HO762 := n3_; have HO765 := n4_; have HB := n5_; clear n0_ n1_ n2_ n3_ n4_ n5_; (try clear hb); (try clear hb2); (try clear hk); (try clear hi); (try clear ho0)) | ((with_reducible refine gate_callee (f := 24) rfl ?_); refine goesL_ (some 40) rfl rfl Try.func24 (by kernel_rfl) rfl #[.slice A1 l1.length c1] rfl (by (try simp only [List.map_toArray, List.map_cons, List.map_nil]); first | done | rfl | (simp only [List.length_drop, List.length_take]; rfl)) ?_; (with_reducible refine (laws_toWordOpS.calls k _ _ l1 t766 _ ?side1 ?side2 A10.out).mono ?_); (case side1 => repeat (first | exact (Kd.C_below HR1.out HB.out) | (with_reducible refine Kd.C_alloc ?_ _) | (with_reducible refine Kd.C_drewN ?_ _) | (with_reducible refine Kd.C_drew ?_))); (case side2 => exact HC1.out); rintro e w19 ⟨v767, rfl, ho0, hb⟩; refine ⟨_, rfl, ?_⟩; have n0_ := Aside0.mk (Kd.R_below (by (with_reducible repeat (first | apply Kd.R_alloc | apply Kd.R_drewN | apply Kd.R_drew)); exact HO752.out) hb); have n1_ := Aside0.mk (Kd.R_elder' (by (with_reducible repeat (first | apply Kd.R_alloc | apply Kd.R_drewN | apply Kd.R_drew)); exact HO755.out) (Kd.R_base ho0) hb); have n2_ := Aside0.mk (Kd.R_below (by (with_reducible repeat (first | apply Kd.R_alloc | apply Kd.R_drewN | apply Kd.R_drew)); exact HO760.out) hb); have n3_ := Aside0.mk (Kd.R_below (by (with_reducible repeat (first | apply Kd.R_alloc | apply Kd.R_drewN | apply Kd.R_drew)); exact HO762.out) hb); have n4_ := Aside0.mk (Kd.R_below (by (with_reducible repeat (first | apply Kd.R_alloc | apply Kd.R_drewN | apply Kd.R_drew)); exact HO765.out) hb); have n5_ := Aside0.mk (Kd.R_lower (Kd.R_new' ho0 (Kd.R_lt (by (with_reducible repeat (first | apply Kd.R_alloc | apply Kd.R_drewN | apply Kd.R_drew)); exact HO755.out))) (below_size (by repeat (first | (with_reducible first | exact HB.out | apply below_alloc | apply pw_below_drewN | apply below_drew1) | exact HB.out)))); have n6_ := Aside0.mk (below_step (by repeat (first | (with_reducible first | exact HB.out | apply below_alloc | apply pw_below_drewN | apply below_drew1) | exact HB.out)) hb); clear HO752; clear HO755; clear HO760; clear HO762; clear HO765; clear HB; have HO752 := n0_; have HO755 := n1_; have HO760 := n2_; have HO762 := n3_; have HO765 := n4_; have HO768 := n5_; have HB := n6_; clear n0_ n1_ n2_ n3_ n4_ n5_ n6_; (try clear hb); (try clear hb2); (try clear hk); (try clear hi); (try clear ho0); obtain ⟨Ao20, co20, eo20⟩ := Kd.R_slice HO765.out; subst eo20; obtain ⟨Ao21, co21, eo21⟩ := Kd.R_slice HO768.out; subst eo21) | ((with_reducible refine gate_callee (f := 37) rfl ?_); refine goesL_ (some 44) rfl rfl Try.func37 (by kernel_rfl) rfl #[.slice Ao20 t763.length co20, .slice Ao21 t766.length co21] rfl (by (try simp only [List.map_toArray, List.map_cons, List.map_nil]); first | done | rfl | (simp only [List.length_drop, List.length_take]; rfl)) ?_; (with_reducible refine (impl_Words.calls k _ _ t763 _ _ t766 t769 t770 t771 _ ?side1 ?side2 ?side3 ?side4 A11.out).mono ?_); (case side1 => repeat (first | exact (Kd.R_reads' HO765.out).2.2 | (with_reducible refine Kd.C_alloc ?_ _) | (with_reducible refine Kd.C_drewN ?_ _) | (with_reducible refine Kd.C_drew ?_))); (case side2 => exact (Kd.R_reads' HO765.out).2.1); (case side3 => repeat (first | exact (Kd.R_reads' HO768.out).2.2 | (with_reducible refine Kd.C_alloc ?_ _) | (with_reducible refine Kd.C_drewN ?_ _) | (with_reducible refine Kd.C_drew ?_))); (case side4 => exact (Kd.R_reads' HO768.out).2.1); rintro e w22 ⟨v772, v774, rfl, ho0, ho1, hb⟩; refine ⟨_, rfl, ?_⟩; have n0_ := Aside0.mk (Kd.R_mono (Kd.R_told (Kd.R_told (Kd.R_old (by (with_reducible repeat (first | apply Kd.R_alloc | apply Kd.R_drewN | apply Kd.R_drew)); exact HO752.out) hb) (Kd.R_base ho0)) (Kd.R_base ho1)) (fun _ h_ => h_.1)); have n1_ := Aside0.mk (Kd.R_below (by (with_reducible repeat (first | apply Kd.R_alloc | apply Kd.R_drewN | apply Kd.R_drew)); exact HO755.out) hb); have n2_ := Aside0.mk (Kd.R_mono (Kd.R_told (Kd.R_told (Kd.R_old (by (with_reducible repeat (first | apply Kd.R_alloc | apply Kd.R_drewN | apply Kd.R_drew)); exact HO760.out) hb) (Kd.R_base ho0)) (Kd.R_base ho1)) (fun _ h_ => h_.1)); have n3_ := Aside0.mk (Kd.R_mono (Kd.R_told (Kd.R_told (Kd.R_old (by (with_reducible repeat (first | apply Kd.R_alloc | apply Kd.R_drewN | apply Kd.R_drew)); exact HO762.out) hb) (Kd.R_base ho0)) (Kd.R_base ho1)) (fun _ h_ => h_.1)); have n4_ := Aside0.mk (Kd.R_mono (Kd.R_told (Kd.R_told (Kd.R_old (by (with_reducible repeat (first | apply Kd.R_alloc | apply Kd.R_drewN | apply Kd.R_drew)); exact HO765.out) hb) (Kd.R_base ho0)) (Kd.R_base ho1)) (fun _ h_ => h_.1)); have n5_ := Aside0.mk (Kd.R_below (by (with_reducible repeat (first | apply Kd.R_alloc | apply Kd.R_drewN | apply Kd.R_drew)); exact HO768.out) hb); have n6_ := Aside0.mk (Kd.R_lower (Kd.R_new' (Kd.R_new' (Kd.R_new' (Kd.R_new' ho0 (Kd.R_lt (by (with_reducible repeat (first | apply Kd.R_alloc | apply Kd.R_drewN | apply Kd.R_drew)); exact HO752.out))) (Kd.R_lt (by (with_reducible repeat (first | apply Kd.R_alloc | apply Kd.R_drewN | apply Kd.R_drew)); exact HO760.out))) (Kd.R_lt (by (with_reducible repeat (first | apply Kd.R_alloc | apply Kd.R_drewN | apply Kd.R_drew)); exact HO762.out))) (Kd.R_lt (by (with_reducible repeat (first | apply Kd.R_alloc | apply Kd.R_drewN | apply Kd.R_drew)); exact HO765.out))) (below_size (by repeat (first | (with_reducible first | exact HB.out | apply below_alloc | apply pw_below_drewN | apply below_drew1) | exact HB.out)))); have n7_ := Aside0.mk (Kd.R_lower (Kd.R_new' (Kd.R_new' (Kd.R_new' (Kd.R_new' ho1 (Kd.R_lt (by (with_reducible repeat (first | apply Kd.R_alloc | apply Kd.R_drewN | apply Kd.R_drew)); exact HO752.out))) (Kd.R_lt (by (with_reducible repeat (first | apply Kd.R_alloc | apply Kd.R_drewN | apply Kd.R_drew)); exact HO760.out))) (Kd.R_lt (by (with_reducible repeat (first | apply Kd.R_alloc | apply Kd.R_drewN | apply Kd.R_drew)); exact HO762.out))) (Kd.R_lt (by (with_reducible repeat (first | apply Kd.R_alloc | apply Kd.R_drewN | apply Kd.R_drew)); exact HO765.out))) (below_size (by repeat (first | (with_reducible first | exact HB.out | apply below_alloc | apply pw_below_drewN | apply below_drew1) | exact HB.out)))); have n8_ := Aside0.mk (below_step (by repeat (first | (with_reducible first | exact HB.out | apply below_alloc | apply pw_below_drewN | apply below_drew1) | exact HB.out)) hb); clear HO752; clear HO755; clear HO760; clear HO762; clear HO765; clear HO768; clear HB; have HO752 := n0_; have HO755 := n1_; have HO760 := n2_; have HO762 := n3_; have HO765 := n4_; have HO768 := n5_; have HO773 := n6_; have HO775 := n7_; have HB := n8_; clear n0_ n1_ n2_ n3_ n4_ n5_ n6_ n7_ n8_; (try clear hb); (try clear hb2); (try clear hk); (try clear hi); (try clear ho0); (try clear ho1)))
      (try simp only [Act.put, List.setIfInBounds_toArray, List.set_cons_zero, List.set_cons_succ])
      go_cut [62] (fun v62 wc => ∃ (kq : Nat) (x62_11 : Bool), v62 = .bool x62_11 ∧ Aside0 (laws_FnExactWords.j0 kq l0 l1 t756 t757 t758 t763 t766 t769 t770 t771 x62_11 = some true) ∧ Aside0 (kq ≤ k) ∧ Aside0 (Kd.R (Kd.int .i64) 3 wc w.heap.size (fun k_ => some k_ ≠ (v761 : Value).ownBlock ∧ some k_ ≠ ((.slice Ao20 t763.length co20) : Value).ownBlock ∧ some k_ ≠ (v772 : Value).ownBlock ∧ some k_ ≠ (v774 : Value).ownBlock) v759 t756) ∧ Aside0 (Kd.R (Kd.int .i64) 3 wc w.heap.size (fun k_ => some k_ ≠ (v759 : Value).ownBlock ∧ some k_ ≠ ((.slice Ao20 t763.length co20) : Value).ownBlock ∧ some k_ ≠ (v772 : Value).ownBlock ∧ some k_ ≠ (v774 : Value).ownBlock) v761 t757) ∧ Aside0 (Kd.R (Kd.int .i64) 3 wc w.heap.size (fun k_ => some k_ ≠ (v759 : Value).ownBlock ∧ some k_ ≠ (v761 : Value).ownBlock ∧ some k_ ≠ (v772 : Value).ownBlock ∧ some k_ ≠ (v774 : Value).ownBlock) (.slice Ao20 t763.length co20) t763) ∧ Aside0 (Kd.R k34 34 wc w.heap.size (fun _ => True) (.slice Ao21 t766.length co21) t766) ∧ Aside0 (Kd.R (Kd.int .i64) 3 wc w.heap.size (fun k_ => some k_ ≠ (v759 : Value).ownBlock ∧ some k_ ≠ (v761 : Value).ownBlock ∧ some k_ ≠ ((.slice Ao20 t763.length co20) : Value).ownBlock ∧ some k_ ≠ (v774 : Value).ownBlock) v772 t769) ∧ Aside0 (Kd.R (Kd.int .i64) 3 wc w.heap.size (fun k_ => some k_ ≠ (v759 : Value).ownBlock ∧ some k_ ≠ (v761 : Value).ownBlock ∧ some k_ ≠ ((.slice Ao20 t763.length co20) : Value).ownBlock ∧ some k_ ≠ (v772 : Value).ownBlock) v774 t770) ∧ Aside0 (Below w.heap.size w wc))
      case first =>
        have H := HC12.out
        clear HC12
        replace H := Option.bind_eq_some_iff.mp H
        obtain ⟨t776, A230, H⟩ := H
        replace H : (if t776 = true then ((laws_eqIntS.f k t770 t757).bind fun t777 => (if t777 = true then (laws_FnExactWords.j0 k l0 l1 t756 t757 t758 t763 t766 t769 t770 t771 (t771 != t758)) else (laws_FnExactWords.j0 k l0 l1 t756 t757 t758 t763 t766 t769 t770 t771 true))) else (laws_FnExactWords.j0 k l0 l1 t756 t757 t758 t763 t766 t769 t770 t771 true)) = some true := H
        have A23 := Aside0.mk A230
        clear A230
        by_cases c24 : t776 = true
        · subst c24
          have H1 : ((laws_eqIntS.f k t770 t757).bind fun t777 => (if t777 = true then (laws_FnExactWords.j0 k l0 l1 t756 t757 t758 t763 t766 t769 t770 t771 (t771 != t758)) else (laws_FnExactWords.j0 k l0 l1 t756 t757 t758 t763 t766 t769 t770 t771 true))) = some true := by rw [if_pos rfl] at H; exact H
          clear H
          have H := H1
          clear H1
          replace H := Option.bind_eq_some_iff.mp H
          obtain ⟨t777, A250, H⟩ := H
          replace H : (if t777 = true then (laws_FnExactWords.j0 k l0 l1 t756 t757 t758 t763 t766 t769 t770 t771 (t771 != t758)) else (laws_FnExactWords.j0 k l0 l1 t756 t757 t758 t763 t766 t769 t770 t771 true)) = some true := H
          have A25 := Aside0.mk A250
          clear A250
          by_cases c26 : t777 = true
          · subst c26
            have H1 : (laws_FnExactWords.j0 k l0 l1 t756 t757 t758 t763 t766 t769 t770 t771 (t771 != t758)) = some true := by rw [if_pos rfl] at H; exact H
            clear H
            have H := H1
            clear H1
            have H' := Aside0.mk H
            clear H
            obtain ⟨Ao27, co27, eo27⟩ := Kd.R_slice HO773.out
            subst eo27
            obtain ⟨Ao28, co28, eo28⟩ := Kd.R_slice HO760.out
            subst eo28
            go_wp2_with (first | ((with_reducible refine gate_callee (f := 14) rfl ?_); refine goesL_ (some 50) rfl rfl Try.func14 (by kernel_rfl) rfl #[.slice Ao27 t769.length co27, .slice Ao28 t756.length co28] rfl (by (try simp only [List.map_toArray, List.map_cons, List.map_nil]); first | done | rfl | (simp only [List.length_drop, List.length_take]; rfl)) ?_; (with_reducible refine (laws_eqIntS.calls k _ _ t769 _ _ t756 true _ ?side1 ?side2 ?side3 ?side4 A23.out).mono ?_); (case side1 => repeat (first | exact (Kd.R_reads' HO773.out).2.2 | (with_reducible refine Kd.C_alloc ?_ _) | (with_reducible refine Kd.C_drewN ?_ _) | (with_reducible refine Kd.C_drew ?_))); (case side2 => exact (Kd.R_reads' HO773.out).2.1); (case side3 => repeat (first | exact (Kd.R_reads' HO760.out).2.2 | (with_reducible refine Kd.C_alloc ?_ _) | (with_reducible refine Kd.C_drewN ?_ _) | (with_reducible refine Kd.C_drew ?_))); (case side4 => exact (Kd.R_reads' HO760.out).2.1); rintro e w' ⟨rfl, ⟨nd, rfl⟩⟩; refine ⟨_, rfl, ?_⟩; obtain ⟨Ao29, co29, eo29⟩ := Kd.R_slice HO775.out; subst eo29; obtain ⟨Ao30, co30, eo30⟩ := Kd.R_slice HO762.out; subst eo30) | (go_at_call 14; (with_reducible refine (laws_eqIntS.calls k _ _ t770 _ _ t757 true _ ?side1 ?side2 ?side3 ?side4 A25.out).mono ?_); (case side1 => repeat (first | exact (Kd.R_reads' HO775.out).2.2 | (with_reducible refine Kd.C_alloc ?_ _) | (with_reducible refine Kd.C_drewN ?_ _) | (with_reducible refine Kd.C_drew ?_))); (case side2 => exact (Kd.R_reads' HO775.out).2.1); (case side3 => repeat (first | exact (Kd.R_reads' HO762.out).2.2 | (with_reducible refine Kd.C_alloc ?_ _) | (with_reducible refine Kd.C_drewN ?_ _) | (with_reducible refine Kd.C_drew ?_))); (case side4 => exact (Kd.R_reads' HO762.out).2.1); rintro e w' ⟨rfl, ⟨nd, rfl⟩⟩))
            go_meet
            case rel => exact ⟨_, ((t771 != t758)), (by first | rfl | (simp; done) | (simp [*]; done)), H', ⟨by first | omega | exact Nat.le_refl _⟩, ⟨by (with_reducible repeat (first | apply Kd.R_alloc | apply Kd.R_drewN | apply Kd.R_drew)); exact Kd.R_mono HO760.out (fun _ hk => ⟨hk.1.1.1.1, ⟨hk.1.1.2, ⟨hk.1.2, hk.2⟩⟩⟩)⟩, ⟨by (with_reducible repeat (first | apply Kd.R_alloc | apply Kd.R_drewN | apply Kd.R_drew)); exact Kd.R_mono HO762.out (fun _ hk => ⟨hk.1.1.1.1, ⟨hk.1.1.2, ⟨hk.1.2, hk.2⟩⟩⟩)⟩, ⟨by (with_reducible repeat (first | apply Kd.R_alloc | apply Kd.R_drewN | apply Kd.R_drew)); exact Kd.R_mono HO765.out (fun _ hk => ⟨hk.1.1.1.2, ⟨hk.1.1.2, ⟨hk.1.2, hk.2⟩⟩⟩)⟩, ⟨by (with_reducible repeat (first | apply Kd.R_alloc | apply Kd.R_drewN | apply Kd.R_drew)); exact Kd.R_mono HO768.out (fun _ hk => trivial)⟩, ⟨by (with_reducible repeat (first | apply Kd.R_alloc | apply Kd.R_drewN | apply Kd.R_drew)); exact Kd.R_mono HO773.out (fun _ hk => ⟨hk.1.1.2, ⟨hk.1.2, ⟨hk.2, hk.1.1.1.1⟩⟩⟩)⟩, ⟨by (with_reducible repeat (first | apply Kd.R_alloc | apply Kd.R_drewN | apply Kd.R_drew)); exact Kd.R_mono HO775.out (fun _ hk => ⟨hk.1.1.2, ⟨hk.1.2, ⟨hk.2, hk.1.1.1.1⟩⟩⟩)⟩, ⟨by repeat (first | (with_reducible first | exact HB.out | apply below_alloc | apply pw_below_drewN | apply below_drew1) | exact HB.out)⟩⟩
          · replace c26 := Bool.eq_false_iff.mpr c26
            subst c26
            have H1 : (laws_FnExactWords.j0 k l0 l1 t756 t757 t758 t763 t766 t769 t770 t771 true) = some true := by rw [if_neg (show ¬ (false = true) by decide)] at H; exact H
            clear H
            have H := H1
            clear H1
            have H' := Aside0.mk H
            clear H
            obtain ⟨Ao31, co31, eo31⟩ := Kd.R_slice HO773.out
            subst eo31
            obtain ⟨Ao32, co32, eo32⟩ := Kd.R_slice HO760.out
            subst eo32
            go_wp2_with (first | ((with_reducible refine gate_callee (f := 14) rfl ?_); refine goesL_ (some 50) rfl rfl Try.func14 (by kernel_rfl) rfl #[.slice Ao31 t769.length co31, .slice Ao32 t756.length co32] rfl (by (try simp only [List.map_toArray, List.map_cons, List.map_nil]); first | done | rfl | (simp only [List.length_drop, List.length_take]; rfl)) ?_; (with_reducible refine (laws_eqIntS.calls k _ _ t769 _ _ t756 true _ ?side1 ?side2 ?side3 ?side4 A23.out).mono ?_); (case side1 => repeat (first | exact (Kd.R_reads' HO773.out).2.2 | (with_reducible refine Kd.C_alloc ?_ _) | (with_reducible refine Kd.C_drewN ?_ _) | (with_reducible refine Kd.C_drew ?_))); (case side2 => exact (Kd.R_reads' HO773.out).2.1); (case side3 => repeat (first | exact (Kd.R_reads' HO760.out).2.2 | (with_reducible refine Kd.C_alloc ?_ _) | (with_reducible refine Kd.C_drewN ?_ _) | (with_reducible refine Kd.C_drew ?_))); (case side4 => exact (Kd.R_reads' HO760.out).2.1); rintro e w' ⟨rfl, ⟨nd, rfl⟩⟩; refine ⟨_, rfl, ?_⟩; obtain ⟨Ao33, co33, eo33⟩ := Kd.R_slice HO775.out; subst eo33; obtain ⟨Ao34, co34, eo34⟩ := Kd.R_slice HO762.out; subst eo34) | (go_at_call 14; (with_reducible refine (laws_eqIntS.calls k _ _ t770 _ _ t757 false _ ?side1 ?side2 ?side3 ?side4 A25.out).mono ?_); (case side1 => repeat (first | exact (Kd.R_reads' HO775.out).2.2 | (with_reducible refine Kd.C_alloc ?_ _) | (with_reducible refine Kd.C_drewN ?_ _) | (with_reducible refine Kd.C_drew ?_))); (case side2 => exact (Kd.R_reads' HO775.out).2.1); (case side3 => repeat (first | exact (Kd.R_reads' HO762.out).2.2 | (with_reducible refine Kd.C_alloc ?_ _) | (with_reducible refine Kd.C_drewN ?_ _) | (with_reducible refine Kd.C_drew ?_))); (case side4 => exact (Kd.R_reads' HO762.out).2.1); rintro e w' ⟨rfl, ⟨nd, rfl⟩⟩))
            go_meet
            case rel => exact ⟨_, (true), (by first | rfl | (simp; done) | (simp [*]; done)), H', ⟨by first | omega | exact Nat.le_refl _⟩, ⟨by (with_reducible repeat (first | apply Kd.R_alloc | apply Kd.R_drewN | apply Kd.R_drew)); exact Kd.R_mono HO760.out (fun _ hk => ⟨hk.1.1.1.1, ⟨hk.1.1.2, ⟨hk.1.2, hk.2⟩⟩⟩)⟩, ⟨by (with_reducible repeat (first | apply Kd.R_alloc | apply Kd.R_drewN | apply Kd.R_drew)); exact Kd.R_mono HO762.out (fun _ hk => ⟨hk.1.1.1.1, ⟨hk.1.1.2, ⟨hk.1.2, hk.2⟩⟩⟩)⟩, ⟨by (with_reducible repeat (first | apply Kd.R_alloc | apply Kd.R_drewN | apply Kd.R_drew)); exact Kd.R_mono HO765.out (fun _ hk => ⟨hk.1.1.1.2, ⟨hk.1.1.2, ⟨hk.1.2, hk.2⟩⟩⟩)⟩, ⟨by (with_reducible repeat (first | apply Kd.R_alloc | apply Kd.R_drewN | apply Kd.R_drew)); exact Kd.R_mono HO768.out (fun _ hk => trivial)⟩, ⟨by (with_reducible repeat (first | apply Kd.R_alloc | apply Kd.R_drewN | apply Kd.R_drew)); exact Kd.R_mono HO773.out (fun _ hk => ⟨hk.1.1.2, ⟨hk.1.2, ⟨hk.2, hk.1.1.1.1⟩⟩⟩)⟩, ⟨by (with_reducible repeat (first | apply Kd.R_alloc | apply Kd.R_drewN | apply Kd.R_drew)); exact Kd.R_mono HO775.out (fun _ hk => ⟨hk.1.1.2, ⟨hk.1.2, ⟨hk.2, hk.1.1.1.1⟩⟩⟩)⟩, ⟨by repeat (first | (with_reducible first | exact HB.out | apply below_alloc | apply pw_below_drewN | apply below_drew1) | exact HB.out)⟩⟩
        · replace c24 := Bool.eq_false_iff.mpr c24
          subst c24
          have H1 : (laws_FnExactWords.j0 k l0 l1 t756 t757 t758 t763 t766 t769 t770 t771 true) = some true := by rw [if_neg (show ¬ (false = true) by decide)] at H; exact H
          clear H
          have H := H1
          clear H1
          have H' := Aside0.mk H
          clear H
          obtain ⟨Ao35, co35, eo35⟩ := Kd.R_slice HO773.out
          subst eo35
          obtain ⟨Ao36, co36, eo36⟩ := Kd.R_slice HO760.out
          subst eo36
          go_wp2_with (first | ((with_reducible refine gate_callee (f := 14) rfl ?_); refine goesL_ (some 50) rfl rfl Try.func14 (by kernel_rfl) rfl #[.slice Ao35 t769.length co35, .slice Ao36 t756.length co36] rfl (by (try simp only [List.map_toArray, List.map_cons, List.map_nil]); first | done | rfl | (simp only [List.length_drop, List.length_take]; rfl)) ?_; (with_reducible refine (laws_eqIntS.calls k _ _ t769 _ _ t756 false _ ?side1 ?side2 ?side3 ?side4 A23.out).mono ?_); (case side1 => repeat (first | exact (Kd.R_reads' HO773.out).2.2 | (with_reducible refine Kd.C_alloc ?_ _) | (with_reducible refine Kd.C_drewN ?_ _) | (with_reducible refine Kd.C_drew ?_))); (case side2 => exact (Kd.R_reads' HO773.out).2.1); (case side3 => repeat (first | exact (Kd.R_reads' HO760.out).2.2 | (with_reducible refine Kd.C_alloc ?_ _) | (with_reducible refine Kd.C_drewN ?_ _) | (with_reducible refine Kd.C_drew ?_))); (case side4 => exact (Kd.R_reads' HO760.out).2.1); rintro e w' ⟨rfl, ⟨nd, rfl⟩⟩; refine ⟨_, rfl, ?_⟩))
          go_meet
          case rel => exact ⟨_, (true), (by first | rfl | (simp; done) | (simp [*]; done)), H', ⟨by first | omega | exact Nat.le_refl _⟩, ⟨by (with_reducible repeat (first | apply Kd.R_alloc | apply Kd.R_drewN | apply Kd.R_drew)); exact Kd.R_mono HO760.out (fun _ hk => ⟨hk.1.1.1.1, ⟨hk.1.1.2, ⟨hk.1.2, hk.2⟩⟩⟩)⟩, ⟨by (with_reducible repeat (first | apply Kd.R_alloc | apply Kd.R_drewN | apply Kd.R_drew)); exact Kd.R_mono HO762.out (fun _ hk => ⟨hk.1.1.1.1, ⟨hk.1.1.2, ⟨hk.1.2, hk.2⟩⟩⟩)⟩, ⟨by (with_reducible repeat (first | apply Kd.R_alloc | apply Kd.R_drewN | apply Kd.R_drew)); exact Kd.R_mono HO765.out (fun _ hk => ⟨hk.1.1.1.2, ⟨hk.1.1.2, ⟨hk.1.2, hk.2⟩⟩⟩)⟩, ⟨by (with_reducible repeat (first | apply Kd.R_alloc | apply Kd.R_drewN | apply Kd.R_drew)); exact Kd.R_mono HO768.out (fun _ hk => trivial)⟩, ⟨by (with_reducible repeat (first | apply Kd.R_alloc | apply Kd.R_drewN | apply Kd.R_drew)); exact Kd.R_mono HO773.out (fun _ hk => ⟨hk.1.1.2, ⟨hk.1.2, ⟨hk.2, hk.1.1.1.1⟩⟩⟩)⟩, ⟨by (with_reducible repeat (first | apply Kd.R_alloc | apply Kd.R_drewN | apply Kd.R_drew)); exact Kd.R_mono HO775.out (fun _ hk => ⟨hk.1.1.2, ⟨hk.1.2, ⟨hk.2, hk.1.1.1.1⟩⟩⟩)⟩, ⟨by repeat (first | (with_reducible first | exact HB.out | apply below_alloc | apply pw_below_drewN | apply below_drew1) | exact HB.out)⟩⟩
      case rest =>
        clear HC12
        try clear c1
        try clear c2
        try clear p2
        try clear c3
        try clear c3b0
        try clear c3b1
        try clear c5
        try clear c5b0
        try clear c8
        try clear c12
        try clear c14
        try clear c22
        try clear c24
        try clear c26
        try clear c36
        obtain ⟨kq, x62_11, rfl, HA, HJ11, HO_6, HO_7, HO_9, HO_10, HO_11, HO_12, HB⟩ := hcut
        cases kq with
        | zero => exact absurd HA.out (by simp [laws_FnExactWords.j0])
        | succ kj11 =>
          have H := HA.out
          clear HA
          simp only [laws_FnExactWords.j0] at H
          by_cases c37 : x62_11 = true
          · subst c37
            have H1 : (some false) = some true := by rw [if_pos rfl] at H; exact H
            clear H
            have H := H1
            clear H1
            exact absurd H (by first | (simp; done) | ((repeat' split) <;> simp))
          · replace c37 := Bool.eq_false_iff.mpr c37
            subst c37
            have H1 : ((laws_toIntS.f kj11 l0).bind fun t778 => ((laws_eqIntS.f kj11 t763 t778).bind fun t781 => (if t781 = true then ((laws_toWordOpS.f kj11 l1).bind fun t782 => ((laws_eqWordOpS.f kj11 t766 t782).bind fun t785 => (if t785 = true then ((laws_markIntS.f kj11 t763 1).bind fun bt786 => ((laws_markWordOpS.f kj11 t766 bt786.1).bind fun bt788 => (if bt788.1 < 0 then (laws_FnExactWords.j1 kj11 l0 l1 t756 t757 t758 t769 t770 true) else ((laws_eqIntS.f kj11 t769 t756).bind fun t790 => (if t790 = true then ((laws_eqIntS.f kj11 t770 t757).bind fun t791 => (if t791 = true then (laws_FnExactWords.j1 kj11 l0 l1 t756 t757 t758 t769 t770 (t771 != t758)) else (laws_FnExactWords.j1 kj11 l0 l1 t756 t757 t758 t769 t770 true))) else (laws_FnExactWords.j1 kj11 l0 l1 t756 t757 t758 t769 t770 true)))))) else (some false)))) else (some false)))) = some true := by rw [if_neg (show ¬ (false = true) by decide)] at H; exact H
            clear H
            have H := H1
            clear H1
            replace H := Option.bind_eq_some_iff.mp H
            obtain ⟨t778, A380, H⟩ := H
            replace H : ((laws_eqIntS.f kj11 t763 t778).bind fun t781 => (if t781 = true then ((laws_toWordOpS.f kj11 l1).bind fun t782 => ((laws_eqWordOpS.f kj11 t766 t782).bind fun t785 => (if t785 = true then ((laws_markIntS.f kj11 t763 1).bind fun bt786 => ((laws_markWordOpS.f kj11 t766 bt786.1).bind fun bt788 => (if bt788.1 < 0 then (laws_FnExactWords.j1 kj11 l0 l1 t756 t757 t758 t769 t770 true) else ((laws_eqIntS.f kj11 t769 t756).bind fun t790 => (if t790 = true then ((laws_eqIntS.f kj11 t770 t757).bind fun t791 => (if t791 = true then (laws_FnExactWords.j1 kj11 l0 l1 t756 t757 t758 t769 t770 (t771 != t758)) else (laws_FnExactWords.j1 kj11 l0 l1 t756 t757 t758 t769 t770 true))) else (laws_FnExactWords.j1 kj11 l0 l1 t756 t757 t758 t769 t770 true)))))) else (some false)))) else (some false))) = some true := H
            have A38 := Aside0.mk A380
            clear A380
            replace H := Option.bind_eq_some_iff.mp H
            obtain ⟨t781, A390, H⟩ := H
            replace H : (if t781 = true then ((laws_toWordOpS.f kj11 l1).bind fun t782 => ((laws_eqWordOpS.f kj11 t766 t782).bind fun t785 => (if t785 = true then ((laws_markIntS.f kj11 t763 1).bind fun bt786 => ((laws_markWordOpS.f kj11 t766 bt786.1).bind fun bt788 => (if bt788.1 < 0 then (laws_FnExactWords.j1 kj11 l0 l1 t756 t757 t758 t769 t770 true) else ((laws_eqIntS.f kj11 t769 t756).bind fun t790 => (if t790 = true then ((laws_eqIntS.f kj11 t770 t757).bind fun t791 => (if t791 = true then (laws_FnExactWords.j1 kj11 l0 l1 t756 t757 t758 t769 t770 (t771 != t758)) else (laws_FnExactWords.j1 kj11 l0 l1 t756 t757 t758 t769 t770 true))) else (laws_FnExactWords.j1 kj11 l0 l1 t756 t757 t758 t769 t770 true)))))) else (some false)))) else (some false)) = some true := H
            have A39 := Aside0.mk A390
            clear A390
            by_cases c40 : t781 = true
            · subst c40
              have H1 : ((laws_toWordOpS.f kj11 l1).bind fun t782 => ((laws_eqWordOpS.f kj11 t766 t782).bind fun t785 => (if t785 = true then ((laws_markIntS.f kj11 t763 1).bind fun bt786 => ((laws_markWordOpS.f kj11 t766 bt786.1).bind fun bt788 => (if bt788.1 < 0 then (laws_FnExactWords.j1 kj11 l0 l1 t756 t757 t758 t769 t770 true) else ((laws_eqIntS.f kj11 t769 t756).bind fun t790 => (if t790 = true then ((laws_eqIntS.f kj11 t770 t757).bind fun t791 => (if t791 = true then (laws_FnExactWords.j1 kj11 l0 l1 t756 t757 t758 t769 t770 (t771 != t758)) else (laws_FnExactWords.j1 kj11 l0 l1 t756 t757 t758 t769 t770 true))) else (laws_FnExactWords.j1 kj11 l0 l1 t756 t757 t758 t769 t770 true)))))) else (some false)))) = some true := by rw [if_pos rfl] at H; exact H
              clear H
              have H := H1
              clear H1
              replace H := Option.bind_eq_some_iff.mp H
              obtain ⟨t782, A410, H⟩ := H
              replace H : ((laws_eqWordOpS.f kj11 t766 t782).bind fun t785 => (if t785 = true then ((laws_markIntS.f kj11 t763 1).bind fun bt786 => ((laws_markWordOpS.f kj11 t766 bt786.1).bind fun bt788 => (if bt788.1 < 0 then (laws_FnExactWords.j1 kj11 l0 l1 t756 t757 t758 t769 t770 true) else ((laws_eqIntS.f kj11 t769 t756).bind fun t790 => (if t790 = true then ((laws_eqIntS.f kj11 t770 t757).bind fun t791 => (if t791 = true then (laws_FnExactWords.j1 kj11 l0 l1 t756 t757 t758 t769 t770 (t771 != t758)) else (laws_FnExactWords.j1 kj11 l0 l1 t756 t757 t758 t769 t770 true))) else (laws_FnExactWords.j1 kj11 l0 l1 t756 t757 t758 t769 t770 true)))))) else (some false))) = some true := H
              have A41 := Aside0.mk A410
              clear A410
              replace H := Option.bind_eq_some_iff.mp H
              obtain ⟨t785, A420, H⟩ := H
              replace H : (if t785 = true then ((laws_markIntS.f kj11 t763 1).bind fun bt786 => ((laws_markWordOpS.f kj11 t766 bt786.1).bind fun bt788 => (if bt788.1 < 0 then (laws_FnExactWords.j1 kj11 l0 l1 t756 t757 t758 t769 t770 true) else ((laws_eqIntS.f kj11 t769 t756).bind fun t790 => (if t790 = true then ((laws_eqIntS.f kj11 t770 t757).bind fun t791 => (if t791 = true then (laws_FnExactWords.j1 kj11 l0 l1 t756 t757 t758 t769 t770 (t771 != t758)) else (laws_FnExactWords.j1 kj11 l0 l1 t756 t757 t758 t769 t770 true))) else (laws_FnExactWords.j1 kj11 l0 l1 t756 t757 t758 t769 t770 true)))))) else (some false)) = some true := H
              have A42 := Aside0.mk A420
              clear A420
              by_cases c43 : t785 = true
              · subst c43
                have H1 : ((laws_markIntS.f kj11 t763 1).bind fun bt786 => ((laws_markWordOpS.f kj11 t766 bt786.1).bind fun bt788 => (if bt788.1 < 0 then (laws_FnExactWords.j1 kj11 l0 l1 t756 t757 t758 t769 t770 true) else ((laws_eqIntS.f kj11 t769 t756).bind fun t790 => (if t790 = true then ((laws_eqIntS.f kj11 t770 t757).bind fun t791 => (if t791 = true then (laws_FnExactWords.j1 kj11 l0 l1 t756 t757 t758 t769 t770 (t771 != t758)) else (laws_FnExactWords.j1 kj11 l0 l1 t756 t757 t758 t769 t770 true))) else (laws_FnExactWords.j1 kj11 l0 l1 t756 t757 t758 t769 t770 true)))))) = some true := by rw [if_pos rfl] at H; exact H
                clear H
                have H := H1
                clear H1
                replace H := Option.bind_eq_some_iff.mp H
                obtain ⟨⟨t786, t787⟩, A440, H⟩ := H
                replace H : ((laws_markWordOpS.f kj11 t766 t786).bind fun bt788 => (if bt788.1 < 0 then (laws_FnExactWords.j1 kj11 l0 l1 t756 t757 t758 t769 t770 true) else ((laws_eqIntS.f kj11 t769 t756).bind fun t790 => (if t790 = true then ((laws_eqIntS.f kj11 t770 t757).bind fun t791 => (if t791 = true then (laws_FnExactWords.j1 kj11 l0 l1 t756 t757 t758 t769 t770 (t771 != t758)) else (laws_FnExactWords.j1 kj11 l0 l1 t756 t757 t758 t769 t770 true))) else (laws_FnExactWords.j1 kj11 l0 l1 t756 t757 t758 t769 t770 true))))) = some true := H
                have A44 := Aside0.mk A440
                clear A440
                replace H := Option.bind_eq_some_iff.mp H
                obtain ⟨⟨t788, t789⟩, A450, H⟩ := H
                replace H : (if t788 < 0 then (laws_FnExactWords.j1 kj11 l0 l1 t756 t757 t758 t769 t770 true) else ((laws_eqIntS.f kj11 t769 t756).bind fun t790 => (if t790 = true then ((laws_eqIntS.f kj11 t770 t757).bind fun t791 => (if t791 = true then (laws_FnExactWords.j1 kj11 l0 l1 t756 t757 t758 t769 t770 (t771 != t758)) else (laws_FnExactWords.j1 kj11 l0 l1 t756 t757 t758 t769 t770 true))) else (laws_FnExactWords.j1 kj11 l0 l1 t756 t757 t758 t769 t770 true)))) = some true := H
                have A45 := Aside0.mk A450
                clear A450
                have HC46 := Aside0.mk H
                clear H
                go_upto_region 20 with (first | ((with_reducible refine gate_callee (f := 12) rfl ?_); refine goesL_ (some 65) rfl rfl Try.func12 (by kernel_rfl) rfl #[.slice A0 l0.length c0] rfl (by (try simp only [List.map_toArray, List.map_cons, List.map_nil]); first | done | rfl | (simp only [List.length_drop, List.length_take]; rfl)) ?_; (with_reducible refine (laws_toIntS.calls kj11 _ _ l0 t778 _ ?side1 ?side2 A38.out).mono ?_); (case side1 => repeat (first | exact (Kd.C_below HR0.out HB.out) | (with_reducible refine Kd.C_alloc ?_ _) | (with_reducible refine Kd.C_drewN ?_ _) | (with_reducible refine Kd.C_drew ?_))); (case side2 => exact HC0.out); rintro e w47 ⟨v779, rfl, ho0, hb⟩; refine ⟨_, rfl, ?_⟩; have n0_ := Aside0.mk (Kd.R_elder' (by (with_reducible repeat (first | apply Kd.R_alloc | apply Kd.R_drewN | apply Kd.R_drew)); exact HO_6.out) (Kd.R_base ho0) hb); have n1_ := Aside0.mk (Kd.R_elder' (by (with_reducible repeat (first | apply Kd.R_alloc | apply Kd.R_drewN | apply Kd.R_drew)); exact HO_7.out) (Kd.R_base ho0) hb); have n2_ := Aside0.mk (Kd.R_elder' (by (with_reducible repeat (first | apply Kd.R_alloc | apply Kd.R_drewN | apply Kd.R_drew)); exact HO_9.out) (Kd.R_base ho0) hb); have n3_ := Aside0.mk (Kd.R_below (by (with_reducible repeat (first | apply Kd.R_alloc | apply Kd.R_drewN | apply Kd.R_drew)); exact HO_10.out) hb); have n4_ := Aside0.mk (Kd.R_elder' (by (with_reducible repeat (first | apply Kd.R_alloc | apply Kd.R_drewN | apply Kd.R_drew)); exact HO_11.out) (Kd.R_base ho0) hb); have n5_ := Aside0.mk (Kd.R_elder' (by (with_reducible repeat (first | apply Kd.R_alloc | apply Kd.R_drewN | apply Kd.R_drew)); exact HO_12.out) (Kd.R_base ho0) hb); have n6_ := Aside0.mk (Kd.R_lower (Kd.R_new' (Kd.R_new' (Kd.R_new' (Kd.R_new' (Kd.R_new' ho0 (Kd.R_lt (by (with_reducible repeat (first | apply Kd.R_alloc | apply Kd.R_drewN | apply Kd.R_drew)); exact HO_6.out))) (Kd.R_lt (by (with_reducible repeat (first | apply Kd.R_alloc | apply Kd.R_drewN | apply Kd.R_drew)); exact HO_7.out))) (Kd.R_lt (by (with_reducible repeat (first | apply Kd.R_alloc | apply Kd.R_drewN | apply Kd.R_drew)); exact HO_9.out))) (Kd.R_lt (by (with_reducible repeat (first | apply Kd.R_alloc | apply Kd.R_drewN | apply Kd.R_drew)); exact HO_11.out))) (Kd.R_lt (by (with_reducible repeat (first | apply Kd.R_alloc | apply Kd.R_drewN | apply Kd.R_drew)); exact HO_12.out))) (below_size (by repeat (first | (with_reducible first | exact HB.out | apply below_alloc | apply pw_below_drewN | apply below_drew1) | exact HB.out)))); have n7_ := Aside0.mk (below_step (by repeat (first | (with_reducible first | exact HB.out | apply below_alloc | apply pw_below_drewN | apply below_drew1) | exact HB.out)) hb); clear HO_6; clear HO_7; clear HO_9; clear HO_10; clear HO_11; clear HO_12; clear HB; have HO_6 := n0_; have HO_7 := n1_; have HO_9 := n2_; have HO_10 := n3_; have HO_11 := n4_; have HO_12 := n5_; have HO780 := n6_; have HB := n7_; clear n0_ n1_ n2_ n3_ n4_ n5_ n6_ n7_; (try clear hb); (try clear hb2); (try clear hk); (try clear hi); (try clear ho0); obtain ⟨Ao48, co48, eo48⟩ := Kd.R_slice HO780.out; subst eo48) | ((with_reducible refine gate_callee (f := 14) rfl ?_); refine goesL_ (some 66) rfl rfl Try.func14 (by kernel_rfl) rfl #[.slice Ao20 t763.length co20, .slice Ao48 t778.length co48] rfl (by (try simp only [List.map_toArray, List.map_cons, List.map_nil]); first | done | rfl | (simp only [List.length_drop, List.length_take]; rfl)) ?_; (with_reducible refine (laws_eqIntS.calls kj11 _ _ t763 _ _ t778 true _ ?side1 ?side2 ?side3 ?side4 A39.out).mono ?_); (case side1 => repeat (first | exact (Kd.R_reads' HO_9.out).2.2 | (with_reducible refine Kd.C_alloc ?_ _) | (with_reducible refine Kd.C_drewN ?_ _) | (with_reducible refine Kd.C_drew ?_))); (case side2 => exact (Kd.R_reads' HO_9.out).2.1); (case side3 => repeat (first | exact (Kd.R_reads' HO780.out).2.2 | (with_reducible refine Kd.C_alloc ?_ _) | (with_reducible refine Kd.C_drewN ?_ _) | (with_reducible refine Kd.C_drew ?_))); (case side4 => exact (Kd.R_reads' HO780.out).2.1); rintro e w' ⟨rfl, ⟨nd, rfl⟩⟩; refine ⟨_, rfl, ?_⟩) | ((with_reducible refine gate_callee (f := 24) rfl ?_); refine goesL_ (some 70) rfl rfl Try.func24 (by kernel_rfl) rfl #[.slice A1 l1.length c1] rfl (by (try simp only [List.map_toArray, List.map_cons, List.map_nil]); first | done | rfl | (simp only [List.length_drop, List.length_take]; rfl)) ?_; (with_reducible refine (laws_toWordOpS.calls kj11 _ _ l1 t782 _ ?side1 ?side2 A41.out).mono ?_); (case side1 => repeat (first | exact (Kd.C_below HR1.out (by repeat (first | (with_reducible first | exact HB.out | apply below_alloc | apply pw_below_drewN | apply below_drew1) | exact HB.out))) | (with_reducible refine Kd.C_alloc ?_ _) | (with_reducible refine Kd.C_drewN ?_ _) | (with_reducible refine Kd.C_drew ?_))); (case side2 => exact HC1.out); rintro e w49 ⟨v783, rfl, ho0, hb⟩; refine ⟨_, rfl, ?_⟩; have n0_ := Aside0.mk (Kd.R_below (by (with_reducible repeat (first | apply Kd.R_alloc | apply Kd.R_drewN | apply Kd.R_drew)); exact HO_6.out) hb); have n1_ := Aside0.mk (Kd.R_below (by (with_reducible repeat (first | apply Kd.R_alloc | apply Kd.R_drewN | apply Kd.R_drew)); exact HO_7.out) hb); have n2_ := Aside0.mk (Kd.R_below (by (with_reducible repeat (first | apply Kd.R_alloc | apply Kd.R_drewN | apply Kd.R_drew)); exact HO_9.out) hb); have n3_ := Aside0.mk (Kd.R_elder' (by (with_reducible repeat (first | apply Kd.R_alloc | apply Kd.R_drewN | apply Kd.R_drew)); exact HO_10.out) (Kd.R_base ho0) hb); have n4_ := Aside0.mk (Kd.R_below (by (with_reducible repeat (first | apply Kd.R_alloc | apply Kd.R_drewN | apply Kd.R_drew)); exact HO_11.out) hb); have n5_ := Aside0.mk (Kd.R_below (by (with_reducible repeat (first | apply Kd.R_alloc | apply Kd.R_drewN | apply Kd.R_drew)); exact HO_12.out) hb); have n6_ := Aside0.mk (Kd.R_below (by (with_reducible repeat (first | apply Kd.R_alloc | apply Kd.R_drewN | apply Kd.R_drew)); exact HO780.out) hb); have n7_ := Aside0.mk (Kd.R_lower (Kd.R_new' ho0 (Kd.R_lt (by (with_reducible repeat (first | apply Kd.R_alloc | apply Kd.R_drewN | apply Kd.R_drew)); exact HO_10.out))) (below_size (by repeat (first | (with_reducible first | exact HB.out | apply below_alloc | apply pw_below_drewN | apply below_drew1) | exact HB.out)))); have n8_ := Aside0.mk (below_step (by repeat (first | (with_reducible first | exact HB.out | apply below_alloc | apply pw_below_drewN | apply below_drew1) | exact HB.out)) hb); clear HO_6; clear HO_7; clear HO_9; clear HO_10; clear HO_11; clear HO_12; clear HO780; clear HB; have HO_6 := n0_; have HO_7 := n1_; have HO_9 := n2_; have HO_10 := n3_; have HO_11 := n4_; have HO_12 := n5_; have HO780 := n6_; have HO784 := n7_; have HB := n8_; clear n0_ n1_ n2_ n3_ n4_ n5_ n6_ n7_ n8_; (try clear hb); (try clear hb2); (try clear hk); (try clear hi); (try clear ho0); obtain ⟨Ao50, co50, eo50⟩ := Kd.R_slice HO784.out; subst eo50) | ((with_reducible refine gate_callee (f := 27) rfl ?_); refine goesL_ (some 71) rfl rfl Try.func27 (by kernel_rfl) rfl #[.slice Ao21 t766.length co21, .slice Ao50 t782.length co50] rfl (by (try simp only [List.map_toArray, List.map_cons, List.map_nil]); first | done | rfl | (simp only [List.length_drop, List.length_take]; rfl)) ?_; (with_reducible refine (laws_eqWordOpS.calls kj11 _ _ t766 _ _ t782 true _ ?side1 ?side2 ?side3 ?side4 A42.out).mono ?_); (case side1 => repeat (first | exact (Kd.R_reads' HO_10.out).2.2 | (with_reducible refine Kd.C_alloc ?_ _) | (with_reducible refine Kd.C_drewN ?_ _) | (with_reducible refine Kd.C_drew ?_))); (case side2 => exact (Kd.R_reads' HO_10.out).2.1); (case side3 => repeat (first | exact (Kd.R_reads' HO784.out).2.2 | (with_reducible refine Kd.C_alloc ?_ _) | (with_reducible refine Kd.C_drewN ?_ _) | (with_reducible refine Kd.C_drew ?_))); (case side4 => exact (Kd.R_reads' HO784.out).2.1); rintro e w51 ⟨rfl, hb⟩; refine ⟨_, rfl, ?_⟩; have n0_ := Aside0.mk (Kd.R_below (by (with_reducible repeat (first | apply Kd.R_alloc | apply Kd.R_drewN | apply Kd.R_drew)); exact HO_6.out) hb); have n1_ := Aside0.mk (Kd.R_below (by (with_reducible repeat (first | apply Kd.R_alloc | apply Kd.R_drewN | apply Kd.R_drew)); exact HO_7.out) hb); have n2_ := Aside0.mk (Kd.R_below (by (with_reducible repeat (first | apply Kd.R_alloc | apply Kd.R_drewN | apply Kd.R_drew)); exact HO_9.out) hb); have n3_ := Aside0.mk (Kd.R_below (by (with_reducible repeat (first | apply Kd.R_alloc | apply Kd.R_drewN | apply Kd.R_drew)); exact HO_10.out) hb); have n4_ := Aside0.mk (Kd.R_below (by (with_reducible repeat (first | apply Kd.R_alloc | apply Kd.R_drewN | apply Kd.R_drew)); exact HO_11.out) hb); have n5_ := Aside0.mk (Kd.R_below (by (with_reducible repeat (first | apply Kd.R_alloc | apply Kd.R_drewN | apply Kd.R_drew)); exact HO_12.out) hb); have n6_ := Aside0.mk (Kd.R_below (by (with_reducible repeat (first | apply Kd.R_alloc | apply Kd.R_drewN | apply Kd.R_drew)); exact HO780.out) hb); have n7_ := Aside0.mk (Kd.R_below (by (with_reducible repeat (first | apply Kd.R_alloc | apply Kd.R_drewN | apply Kd.R_drew)); exact HO784.out) hb); have n8_ := Aside0.mk (below_step (by repeat (first | (with_reducible first | exact HB.out | apply below_alloc | apply pw_below_drewN | apply below_drew1) | exact HB.out)) hb); clear HO_6; clear HO_7; clear HO_9; clear HO_10; clear HO_11; clear HO_12; clear HO780; clear HO784; clear HB; have HO_6 := n0_; have HO_7 := n1_; have HO_9 := n2_; have HO_10 := n3_; have HO_11 := n4_; have HO_12 := n5_; have HO780 := n6_; have HO784 := n7_; have HB := n8_; clear n0_ n1_ n2_ n3_ n4_ n5_ n6_ n7_ n8_; (try clear hb); (try clear hb2); (try clear hk); (try clear hi)) | ((with_reducible refine gate_callee (f := 17) rfl ?_); refine goesL_ (some 75) rfl rfl Try.func17 (by kernel_rfl) rfl #[.slice Ao20 t763.length co20, .int .i64 1] rfl (by (try simp only [List.map_toArray, List.map_cons, List.map_nil]); first | done | rfl | (simp only [List.length_drop, List.length_take]; rfl)) ?_; (with_reducible refine (laws_markIntS.calls kj11 (fun k_ => some k_ = (.slice Ao20 t763.length co20 : Value).ownBlock) (.slice Ao20 t763.length co20) t763 1 t786 t787 w _ ?side1 ?side2 A44.out).mono ?_); (case side1 => repeat (first | (with_reducible first | exact HB.out | apply below_alloc | apply pw_below_drewN | apply below_drew1) | exact HB.out)); (case side2 => exact Kd.R_tight rfl HO_9.out); rintro e w52 ⟨rfl, hy0, hb, hkp⟩; refine ⟨_, rfl, ?_⟩; have n0_ := Aside0.mk (Kd.R_mono (ok' := fun k_ => some k_ ≠ (v761 : Value).ownBlock ∧ some k_ ≠ (.slice Ao20 t763.length co20 : Value).ownBlock ∧ some k_ ≠ (v772 : Value).ownBlock ∧ some k_ ≠ (v774 : Value).ownBlock ∧ some k_ ≠ (.slice Ao48 t778.length co48 : Value).ownBlock) (Kd.R_keptB (HO_6.out) hkp (fun k_ hk_ hs_ => (hk_.1.2.1) hs_)) (fun k_ hk_ => ⟨hk_.1.1.1, hk_.1.1.2.1, hk_.1.1.2.2.1, hk_.1.1.2.2.2, hk_.1.2⟩)); have n1_ := Aside0.mk (Kd.R_mono (ok' := fun k_ => some k_ ≠ (v759 : Value).ownBlock ∧ some k_ ≠ (.slice Ao20 t763.length co20 : Value).ownBlock ∧ some k_ ≠ (v772 : Value).ownBlock ∧ some k_ ≠ (v774 : Value).ownBlock ∧ some k_ ≠ (.slice Ao48 t778.length co48 : Value).ownBlock) (Kd.R_keptB (HO_7.out) hkp (fun k_ hk_ hs_ => (hk_.1.2.1) hs_)) (fun k_ hk_ => ⟨hk_.1.1.1, hk_.1.1.2.1, hk_.1.1.2.2.1, hk_.1.1.2.2.2, hk_.1.2⟩)); have n2_ := Aside0.mk (Kd.R_reok rfl hy0 (fun k_ e_ => HO_9.out.1 k_ e_)); have n3_ := Aside0.mk (Kd.R_mono (ok' := fun k_ => some k_ ≠ (.slice Ao50 t782.length co50 : Value).ownBlock) (Kd.R_keptB ((Kd.R_apart' HO_10.out (Kd.R_typed HO_9.out) (by decide))) hkp (fun k_ hk_ hs_ => (hk_.2) hs_)) (fun k_ hk_ => hk_.1.1.2)); have n4_ := Aside0.mk (Kd.R_mono (ok' := fun k_ => some k_ ≠ (v759 : Value).ownBlock ∧ some k_ ≠ (v761 : Value).ownBlock ∧ some k_ ≠ (.slice Ao20 t763.length co20 : Value).ownBlock ∧ some k_ ≠ (v774 : Value).ownBlock ∧ some k_ ≠ (.slice Ao48 t778.length co48 : Value).ownBlock) (Kd.R_keptB (HO_11.out) hkp (fun k_ hk_ hs_ => (hk_.1.2.2.1) hs_)) (fun k_ hk_ => ⟨hk_.1.1.1, hk_.1.1.2.1, hk_.1.1.2.2.1, hk_.1.1.2.2.2, hk_.1.2⟩)); have n5_ := Aside0.mk (Kd.R_mono (ok' := fun k_ => some k_ ≠ (v759 : Value).ownBlock ∧ some k_ ≠ (v761 : Value).ownBlock ∧ some k_ ≠ (.slice Ao20 t763.length co20 : Value).ownBlock ∧ some k_ ≠ (v772 : Value).ownBlock ∧ some k_ ≠ (.slice Ao48 t778.length co48 : Value).ownBlock) (Kd.R_keptB (HO_12.out) hkp (fun k_ hk_ hs_ => (hk_.1.2.2.1) hs_)) (fun k_ hk_ => ⟨hk_.1.1.1, hk_.1.1.2.1, hk_.1.1.2.2.1, hk_.1.1.2.2.2, hk_.1.2⟩)); have n6_ := Aside0.mk (Kd.R_mono (ok' := fun k_ => some k_ ≠ (v759 : Value).ownBlock ∧ some k_ ≠ (v761 : Value).ownBlock ∧ some k_ ≠ (.slice Ao20 t763.length co20 : Value).ownBlock ∧ some k_ ≠ (v772 : Value).ownBlock ∧ some k_ ≠ (v774 : Value).ownBlock) (Kd.R_keptB (HO780.out) hkp (fun k_ hk_ hs_ => (hk_.1.1.2) hs_)) (fun k_ hk_ => ⟨hk_.1.1.1.1.1.2, hk_.1.1.1.1.2, hk_.1.1.1.2, hk_.1.1.2, hk_.1.2⟩)); have n7_ := Aside0.mk (Kd.R_mono (ok' := fun k_ => some k_ ≠ (.slice Ao21 t766.length co21 : Value).ownBlock) (Kd.R_keptB ((Kd.R_apart' HO784.out (Kd.R_typed HO_9.out) (by decide))) hkp (fun k_ hk_ hs_ => (hk_.2) hs_)) (fun k_ hk_ => hk_.1.1.2)); have n8_ := Aside0.mk (hb); clear HO_6; clear HO_7; clear HO_9; clear HO_10; clear HO_11; clear HO_12; clear HO780; clear HO784; clear HB; have HO_6 := n0_; have HO_7 := n1_; have HO_9 := n2_; have HO_10 := n3_; have HO_11 := n4_; have HO_12 := n5_; have HO780 := n6_; have HO784 := n7_; have HB := n8_; clear n0_ n1_ n2_ n3_ n4_ n5_ n6_ n7_ n8_; (try clear hb); (try clear hkp); (try clear hy0)) | ((with_reducible refine gate_callee (f := 29) rfl ?_); refine goesL_ (some 78) rfl rfl Try.func29 (by kernel_rfl) rfl #[.slice Ao21 t766.length co21, .int .i64 t786] rfl (by (try simp only [List.map_toArray, List.map_cons, List.map_nil]); first | done | rfl | (simp only [List.length_drop, List.length_take]; rfl)) ?_; (with_reducible refine (laws_markWordOpS.calls kj11 (fun k_ => some k_ = (.slice Ao21 t766.length co21 : Value).ownBlock) (.slice Ao21 t766.length co21) t766 t786 t788 t789 w _ ?side1 ?side2 A45.out).mono ?_); (case side1 => repeat (first | (with_reducible first | exact HB.out | apply below_alloc | apply pw_below_drewN | apply below_drew1) | exact HB.out)); (case side2 => exact Kd.R_tight rfl HO_10.out); rintro e w53 ⟨rfl, hy0, hb, hkp⟩; refine ⟨_, rfl, ?_⟩; have n0_ := Aside0.mk (Kd.R_mono (ok' := fun k_ => some k_ ≠ (v761 : Value).ownBlock ∧ some k_ ≠ (.slice Ao20 t763.length co20 : Value).ownBlock ∧ some k_ ≠ (v772 : Value).ownBlock ∧ some k_ ≠ (v774 : Value).ownBlock ∧ some k_ ≠ (.slice Ao48 t778.length co48 : Value).ownBlock) (Kd.R_keptB ((Kd.R_apart' HO_6.out (Kd.R_typed HO_10.out) (by decide))) hkp (fun k_ hk_ hs_ => (hk_.2) hs_)) (fun k_ hk_ => ⟨hk_.1.1.1, hk_.1.1.2.1, hk_.1.1.2.2.1, hk_.1.1.2.2.2.1, hk_.1.1.2.2.2.2⟩)); have n1_ := Aside0.mk (Kd.R_mono (ok' := fun k_ => some k_ ≠ (v759 : Value).ownBlock ∧ some k_ ≠ (.slice Ao20 t763.length co20 : Value).ownBlock ∧ some k_ ≠ (v772 : Value).ownBlock ∧ some k_ ≠ (v774 : Value).ownBlock ∧ some k_ ≠ (.slice Ao48 t778.length co48 : Value).ownBlock) (Kd.R_keptB ((Kd.R_apart' HO_7.out (Kd.R_typed HO_10.out) (by decide))) hkp (fun k_ hk_ hs_ => (hk_.2) hs_)) (fun k_ hk_ => ⟨hk_.1.1.1, hk_.1.1.2.1, hk_.1.1.2.2.1, hk_.1.1.2.2.2.1, hk_.1.1.2.2.2.2⟩)); have n2_ := Aside0.mk (Kd.R_mono (ok' := fun k_ => some k_ ≠ (v759 : Value).ownBlock ∧ some k_ ≠ (v761 : Value).ownBlock ∧ some k_ ≠ (v772 : Value).ownBlock ∧ some k_ ≠ (v774 : Value).ownBlock ∧ some k_ ≠ (.slice Ao48 t778.length co48 : Value).ownBlock) (Kd.R_keptB ((Kd.R_apart' HO_9.out (Kd.R_typed HO_10.out) (by decide))) hkp (fun k_ hk_ hs_ => (hk_.2) hs_)) (fun k_ hk_ => ⟨hk_.1.1.1.1, hk_.1.1.1.2.1, hk_.1.1.1.2.2.1, hk_.1.1.1.2.2.2, hk_.1.1.2⟩)); have n3_ := Aside0.mk (Kd.R_reok rfl hy0 (fun k_ e_ => HO_10.out.1 k_ e_)); have n4_ := Aside0.mk (Kd.R_mono (ok' := fun k_ => some k_ ≠ (v759 : Value).ownBlock ∧ some k_ ≠ (v761 : Value).ownBlock ∧ some k_ ≠ (.slice Ao20 t763.length co20 : Value).ownBlock ∧ some k_ ≠ (v774 : Value).ownBlock ∧ some k_ ≠ (.slice Ao48 t778.length co48 : Value).ownBlock) (Kd.R_keptB ((Kd.R_apart' HO_11.out (Kd.R_typed HO_10.out) (by decide))) hkp (fun k_ hk_ hs_ => (hk_.2) hs_)) (fun k_ hk_ => ⟨hk_.1.1.1, hk_.1.1.2.1, hk_.1.1.2.2.1, hk_.1.1.2.2.2.1, hk_.1.1.2.2.2.2⟩)); have n5_ := Aside0.mk (Kd.R_mono (ok' := fun k_ => some k_ ≠ (v759 : Value).ownBlock ∧ some k_ ≠ (v761 : Value).ownBlock ∧ some k_ ≠ (.slice Ao20 t763.length co20 : Value).ownBlock ∧ some k_ ≠ (v772 : Value).ownBlock ∧ some k_ ≠ (.slice Ao48 t778.length co48 : Value).ownBlock) (Kd.R_keptB ((Kd.R_apart' HO_12.out (Kd.R_typed HO_10.out) (by decide))) hkp (fun k_ hk_ hs_ => (hk_.2) hs_)) (fun k_ hk_ => ⟨hk_.1.1.1, hk_.1.1.2.1, hk_.1.1.2.2.1, hk_.1.1.2.2.2.1, hk_.1.1.2.2.2.2⟩)); have n6_ := Aside0.mk (Kd.R_mono (ok' := fun k_ => some k_ ≠ (v759 : Value).ownBlock ∧ some k_ ≠ (v761 : Value).ownBlock ∧ some k_ ≠ (.slice Ao20 t763.length co20 : Value).ownBlock ∧ some k_ ≠ (v772 : Value).ownBlock ∧ some k_ ≠ (v774 : Value).ownBlock) (Kd.R_keptB ((Kd.R_apart' HO780.out (Kd.R_typed HO_10.out) (by decide))) hkp (fun k_ hk_ hs_ => (hk_.2) hs_)) (fun k_ hk_ => ⟨hk_.1.1.1, hk_.1.1.2.1, hk_.1.1.2.2.1, hk_.1.1.2.2.2.1, hk_.1.1.2.2.2.2⟩)); have n7_ := Aside0.mk (Kd.R_mono (ok' := fun k_ => some k_ ≠ (.slice Ao21 t766.length co21 : Value).ownBlock) (Kd.R_keptB (HO784.out) hkp (fun k_ hk_ hs_ => (hk_) hs_)) (fun k_ hk_ => hk_.1)); have n8_ := Aside0.mk (hb); clear HO_6; clear HO_7; clear HO_9; clear HO_10; clear HO_11; clear HO_12; clear HO780; clear HO784; clear HB; have HO_6 := n0_; have HO_7 := n1_; have HO_9 := n2_; have HO_10 := n3_; have HO_11 := n4_; have HO_12 := n5_; have HO780 := n6_; have HO784 := n7_; have HB := n8_; clear n0_ n1_ n2_ n3_ n4_ n5_ n6_ n7_ n8_; (try clear hb); (try clear hkp); (try clear hy0)))
                (try simp only [Act.put, List.setIfInBounds_toArray, List.set_cons_zero, List.set_cons_succ])
                go_cut [97] (fun v97 wc => ∃ (kq : Nat) (x97_45 : Bool), v97 = .bool x97_45 ∧ Aside0 (laws_FnExactWords.j1 kq l0 l1 t756 t757 t758 t769 t770 x97_45 = some true) ∧ Aside0 (kq ≤ kj11) ∧ Aside0 (Kd.R (Kd.int .i64) 3 wc w.heap.size (fun k_ => some k_ ≠ (v761 : Value).ownBlock ∧ some k_ ≠ (v772 : Value).ownBlock ∧ some k_ ≠ (v774 : Value).ownBlock) v759 t756) ∧ Aside0 (Kd.R (Kd.int .i64) 3 wc w.heap.size (fun k_ => some k_ ≠ (v759 : Value).ownBlock ∧ some k_ ≠ (v772 : Value).ownBlock ∧ some k_ ≠ (v774 : Value).ownBlock) v761 t757) ∧ Aside0 (Kd.R (Kd.int .i64) 3 wc w.heap.size (fun k_ => some k_ ≠ (v759 : Value).ownBlock ∧ some k_ ≠ (v761 : Value).ownBlock ∧ some k_ ≠ (v774 : Value).ownBlock) v772 t769) ∧ Aside0 (Kd.R (Kd.int .i64) 3 wc w.heap.size (fun k_ => some k_ ≠ (v759 : Value).ownBlock ∧ some k_ ≠ (v761 : Value).ownBlock ∧ some k_ ≠ (v772 : Value).ownBlock) v774 t770) ∧ Aside0 (Below w.heap.size w wc))
                case first =>
                  have H := HC46.out
                  clear HC46
                  by_cases c54 : t788 < 0
                  · rw [if_pos c54] at H
                    have c54b0 : decide (t788 < 0) = true := decide_eq_true c54
                    clear c54
                    (first | rw [c54b0] | (simp only [i64_w, i32_w]; rw [c54b0]) | skip)
                    have H' := Aside0.mk H
                    clear H
                    go_wp2
                    go_meet
                    case rel => exact ⟨_, (true), (by first | rfl | (simp; done) | (simp [*]; done)), H', ⟨by have := HJ11.out; first | omega | exact Nat.le_refl _⟩, ⟨by (with_reducible repeat (first | apply Kd.R_alloc | apply Kd.R_drewN | apply Kd.R_drew)); exact Kd.R_mono HO_6.out (fun _ hk => ⟨hk.1, ⟨hk.2.2.1, hk.2.2.2.1⟩⟩)⟩, ⟨by (with_reducible repeat (first | apply Kd.R_alloc | apply Kd.R_drewN | apply Kd.R_drew)); exact Kd.R_mono HO_7.out (fun _ hk => ⟨hk.1, ⟨hk.2.2.1, hk.2.2.2.1⟩⟩)⟩, ⟨by (with_reducible repeat (first | apply Kd.R_alloc | apply Kd.R_drewN | apply Kd.R_drew)); exact Kd.R_mono HO_11.out (fun _ hk => ⟨hk.1, ⟨hk.2.1, hk.2.2.2.1⟩⟩)⟩, ⟨by (with_reducible repeat (first | apply Kd.R_alloc | apply Kd.R_drewN | apply Kd.R_drew)); exact Kd.R_mono HO_12.out (fun _ hk => ⟨hk.1, ⟨hk.2.1, hk.2.2.2.1⟩⟩)⟩, ⟨by repeat (first | (with_reducible first | exact HB.out | apply below_alloc | apply pw_below_drewN | apply below_drew1) | exact HB.out)⟩⟩
                  · rw [if_neg c54] at H
                    have c54b0 : decide (t788 < 0) = false := decide_eq_false c54
                    clear c54
                    (first | rw [c54b0] | (simp only [i64_w, i32_w]; rw [c54b0]) | skip)
                    replace H := Option.bind_eq_some_iff.mp H
                    obtain ⟨t790, A550, H⟩ := H
                    replace H : (if t790 = true then ((laws_eqIntS.f kj11 t770 t757).bind fun t791 => (if t791 = true then (laws_FnExactWords.j1 kj11 l0 l1 t756 t757 t758 t769 t770 (t771 != t758)) else (laws_FnExactWords.j1 kj11 l0 l1 t756 t757 t758 t769 t770 true))) else (laws_FnExactWords.j1 kj11 l0 l1 t756 t757 t758 t769 t770 true)) = some true := H
                    have A55 := Aside0.mk A550
                    clear A550
                    by_cases c56 : t790 = true
                    · subst c56
                      have H1 : ((laws_eqIntS.f kj11 t770 t757).bind fun t791 => (if t791 = true then (laws_FnExactWords.j1 kj11 l0 l1 t756 t757 t758 t769 t770 (t771 != t758)) else (laws_FnExactWords.j1 kj11 l0 l1 t756 t757 t758 t769 t770 true))) = some true := by rw [if_pos rfl] at H; exact H
                      clear H
                      have H := H1
                      clear H1
                      replace H := Option.bind_eq_some_iff.mp H
                      obtain ⟨t791, A570, H⟩ := H
                      replace H : (if t791 = true then (laws_FnExactWords.j1 kj11 l0 l1 t756 t757 t758 t769 t770 (t771 != t758)) else (laws_FnExactWords.j1 kj11 l0 l1 t756 t757 t758 t769 t770 true)) = some true := H
                      have A57 := Aside0.mk A570
                      clear A570
                      by_cases c58 : t791 = true
                      · subst c58
                        have H1 : (laws_FnExactWords.j1 kj11 l0 l1 t756 t757 t758 t769 t770 (t771 != t758)) = some true := by rw [if_pos rfl] at H; exact H
                        clear H
                        have H := H1
                        clear H1
                        have H' := Aside0.mk H
                        clear H
                        obtain ⟨Ao59, co59, eo59⟩ := Kd.R_slice HO_11.out
                        subst eo59
                        obtain ⟨Ao60, co60, eo60⟩ := Kd.R_slice HO_6.out
                        subst eo60
                        go_wp2_with (first | (go_at_call 14; (with_reducible refine (laws_eqIntS.calls kj11 _ _ t769 _ _ t756 true _ ?side1 ?side2 ?side3 ?side4 A55.out).mono ?_); (case side1 => repeat (first | exact (Kd.R_reads' HO_11.out).2.2 | (with_reducible refine Kd.C_alloc ?_ _) | (with_reducible refine Kd.C_drewN ?_ _) | (with_reducible refine Kd.C_drew ?_))); (case side2 => exact (Kd.R_reads' HO_11.out).2.1); (case side3 => repeat (first | exact (Kd.R_reads' HO_6.out).2.2 | (with_reducible refine Kd.C_alloc ?_ _) | (with_reducible refine Kd.C_drewN ?_ _) | (with_reducible refine Kd.C_drew ?_))); (case side4 => exact (Kd.R_reads' HO_6.out).2.1); rintro e w' ⟨rfl, ⟨nd, rfl⟩⟩; obtain ⟨Ao61, co61, eo61⟩ := Kd.R_slice HO_12.out; subst eo61; obtain ⟨Ao62, co62, eo62⟩ := Kd.R_slice HO_7.out; subst eo62) | (go_at_call 14; (with_reducible refine (laws_eqIntS.calls kj11 _ _ t770 _ _ t757 true _ ?side1 ?side2 ?side3 ?side4 A57.out).mono ?_); (case side1 => repeat (first | exact (Kd.R_reads' HO_12.out).2.2 | (with_reducible refine Kd.C_alloc ?_ _) | (with_reducible refine Kd.C_drewN ?_ _) | (with_reducible refine Kd.C_drew ?_))); (case side2 => exact (Kd.R_reads' HO_12.out).2.1); (case side3 => repeat (first | exact (Kd.R_reads' HO_7.out).2.2 | (with_reducible refine Kd.C_alloc ?_ _) | (with_reducible refine Kd.C_drewN ?_ _) | (with_reducible refine Kd.C_drew ?_))); (case side4 => exact (Kd.R_reads' HO_7.out).2.1); rintro e w' ⟨rfl, ⟨nd, rfl⟩⟩))
                        go_meet
                        case rel => exact ⟨_, ((t771 != t758)), (by first | rfl | (simp; done) | (simp [*]; done)), H', ⟨by have := HJ11.out; first | omega | exact Nat.le_refl _⟩, ⟨by (with_reducible repeat (first | apply Kd.R_alloc | apply Kd.R_drewN | apply Kd.R_drew)); exact Kd.R_mono HO_6.out (fun _ hk => ⟨hk.1, ⟨hk.2.2.1, hk.2.2.2.1⟩⟩)⟩, ⟨by (with_reducible repeat (first | apply Kd.R_alloc | apply Kd.R_drewN | apply Kd.R_drew)); exact Kd.R_mono HO_7.out (fun _ hk => ⟨hk.1, ⟨hk.2.2.1, hk.2.2.2.1⟩⟩)⟩, ⟨by (with_reducible repeat (first | apply Kd.R_alloc | apply Kd.R_drewN | apply Kd.R_drew)); exact Kd.R_mono HO_11.out (fun _ hk => ⟨hk.1, ⟨hk.2.1, hk.2.2.2.1⟩⟩)⟩, ⟨by (with_reducible repeat (first | apply Kd.R_alloc | apply Kd.R_drewN | apply Kd.R_drew)); exact Kd.R_mono HO_12.out (fun _ hk => ⟨hk.1, ⟨hk.2.1, hk.2.2.2.1⟩⟩)⟩, ⟨by repeat (first | (with_reducible first | exact HB.out | apply below_alloc | apply pw_below_drewN | apply below_drew1) | exact HB.out)⟩⟩
                      · replace c58 := Bool.eq_false_iff.mpr c58
                        subst c58
                        have H1 : (laws_FnExactWords.j1 kj11 l0 l1 t756 t757 t758 t769 t770 true) = some true := by rw [if_neg (show ¬ (false = true) by decide)] at H; exact H
                        clear H
                        have H := H1
                        clear H1
                        have H' := Aside0.mk H
                        clear H
                        obtain ⟨Ao63, co63, eo63⟩ := Kd.R_slice HO_11.out
                        subst eo63
                        obtain ⟨Ao64, co64, eo64⟩ := Kd.R_slice HO_6.out
                        subst eo64
                        go_wp2_with (first | (go_at_call 14; (with_reducible refine (laws_eqIntS.calls kj11 _ _ t769 _ _ t756 true _ ?side1 ?side2 ?side3 ?side4 A55.out).mono ?_); (case side1 => repeat (first | exact (Kd.R_reads' HO_11.out).2.2 | (with_reducible refine Kd.C_alloc ?_ _) | (with_reducible refine Kd.C_drewN ?_ _) | (with_reducible refine Kd.C_drew ?_))); (case side2 => exact (Kd.R_reads' HO_11.out).2.1); (case side3 => repeat (first | exact (Kd.R_reads' HO_6.out).2.2 | (with_reducible refine Kd.C_alloc ?_ _) | (with_reducible refine Kd.C_drewN ?_ _) | (with_reducible refine Kd.C_drew ?_))); (case side4 => exact (Kd.R_reads' HO_6.out).2.1); rintro e w' ⟨rfl, ⟨nd, rfl⟩⟩; obtain ⟨Ao65, co65, eo65⟩ := Kd.R_slice HO_12.out; subst eo65; obtain ⟨Ao66, co66, eo66⟩ := Kd.R_slice HO_7.out; subst eo66) | (go_at_call 14; (with_reducible refine (laws_eqIntS.calls kj11 _ _ t770 _ _ t757 false _ ?side1 ?side2 ?side3 ?side4 A57.out).mono ?_); (case side1 => repeat (first | exact (Kd.R_reads' HO_12.out).2.2 | (with_reducible refine Kd.C_alloc ?_ _) | (with_reducible refine Kd.C_drewN ?_ _) | (with_reducible refine Kd.C_drew ?_))); (case side2 => exact (Kd.R_reads' HO_12.out).2.1); (case side3 => repeat (first | exact (Kd.R_reads' HO_7.out).2.2 | (with_reducible refine Kd.C_alloc ?_ _) | (with_reducible refine Kd.C_drewN ?_ _) | (with_reducible refine Kd.C_drew ?_))); (case side4 => exact (Kd.R_reads' HO_7.out).2.1); rintro e w' ⟨rfl, ⟨nd, rfl⟩⟩))
                        go_meet
                        case rel => exact ⟨_, (true), (by first | rfl | (simp; done) | (simp [*]; done)), H', ⟨by have := HJ11.out; first | omega | exact Nat.le_refl _⟩, ⟨by (with_reducible repeat (first | apply Kd.R_alloc | apply Kd.R_drewN | apply Kd.R_drew)); exact Kd.R_mono HO_6.out (fun _ hk => ⟨hk.1, ⟨hk.2.2.1, hk.2.2.2.1⟩⟩)⟩, ⟨by (with_reducible repeat (first | apply Kd.R_alloc | apply Kd.R_drewN | apply Kd.R_drew)); exact Kd.R_mono HO_7.out (fun _ hk => ⟨hk.1, ⟨hk.2.2.1, hk.2.2.2.1⟩⟩)⟩, ⟨by (with_reducible repeat (first | apply Kd.R_alloc | apply Kd.R_drewN | apply Kd.R_drew)); exact Kd.R_mono HO_11.out (fun _ hk => ⟨hk.1, ⟨hk.2.1, hk.2.2.2.1⟩⟩)⟩, ⟨by (with_reducible repeat (first | apply Kd.R_alloc | apply Kd.R_drewN | apply Kd.R_drew)); exact Kd.R_mono HO_12.out (fun _ hk => ⟨hk.1, ⟨hk.2.1, hk.2.2.2.1⟩⟩)⟩, ⟨by repeat (first | (with_reducible first | exact HB.out | apply below_alloc | apply pw_below_drewN | apply below_drew1) | exact HB.out)⟩⟩
                    · replace c56 := Bool.eq_false_iff.mpr c56
                      subst c56
                      have H1 : (laws_FnExactWords.j1 kj11 l0 l1 t756 t757 t758 t769 t770 true) = some true := by rw [if_neg (show ¬ (false = true) by decide)] at H; exact H
                      clear H
                      have H := H1
                      clear H1
                      have H' := Aside0.mk H
                      clear H
                      obtain ⟨Ao67, co67, eo67⟩ := Kd.R_slice HO_11.out
                      subst eo67
                      obtain ⟨Ao68, co68, eo68⟩ := Kd.R_slice HO_6.out
                      subst eo68
                      go_wp2_with (first | (go_at_call 14; (with_reducible refine (laws_eqIntS.calls kj11 _ _ t769 _ _ t756 false _ ?side1 ?side2 ?side3 ?side4 A55.out).mono ?_); (case side1 => repeat (first | exact (Kd.R_reads' HO_11.out).2.2 | (with_reducible refine Kd.C_alloc ?_ _) | (with_reducible refine Kd.C_drewN ?_ _) | (with_reducible refine Kd.C_drew ?_))); (case side2 => exact (Kd.R_reads' HO_11.out).2.1); (case side3 => repeat (first | exact (Kd.R_reads' HO_6.out).2.2 | (with_reducible refine Kd.C_alloc ?_ _) | (with_reducible refine Kd.C_drewN ?_ _) | (with_reducible refine Kd.C_drew ?_))); (case side4 => exact (Kd.R_reads' HO_6.out).2.1); rintro e w' ⟨rfl, ⟨nd, rfl⟩⟩))
                      go_meet
                      case rel => exact ⟨_, (true), (by first | rfl | (simp; done) | (simp [*]; done)), H', ⟨by have := HJ11.out; first | omega | exact Nat.le_refl _⟩, ⟨by (with_reducible repeat (first | apply Kd.R_alloc | apply Kd.R_drewN | apply Kd.R_drew)); exact Kd.R_mono HO_6.out (fun _ hk => ⟨hk.1, ⟨hk.2.2.1, hk.2.2.2.1⟩⟩)⟩, ⟨by (with_reducible repeat (first | apply Kd.R_alloc | apply Kd.R_drewN | apply Kd.R_drew)); exact Kd.R_mono HO_7.out (fun _ hk => ⟨hk.1, ⟨hk.2.2.1, hk.2.2.2.1⟩⟩)⟩, ⟨by (with_reducible repeat (first | apply Kd.R_alloc | apply Kd.R_drewN | apply Kd.R_drew)); exact Kd.R_mono HO_11.out (fun _ hk => ⟨hk.1, ⟨hk.2.1, hk.2.2.2.1⟩⟩)⟩, ⟨by (with_reducible repeat (first | apply Kd.R_alloc | apply Kd.R_drewN | apply Kd.R_drew)); exact Kd.R_mono HO_12.out (fun _ hk => ⟨hk.1, ⟨hk.2.1, hk.2.2.2.1⟩⟩)⟩, ⟨by repeat (first | (with_reducible first | exact HB.out | apply below_alloc | apply pw_below_drewN | apply below_drew1) | exact HB.out)⟩⟩
                case rest =>
                  clear HC46
                  try clear c1
                  try clear c2
                  try clear p2
                  try clear c3
                  try clear c3b0
                  try clear c3b1
                  try clear c4
                  try clear c5
                  try clear c5b0
                  try clear c8
                  try clear c12
                  try clear c14
                  try clear c17
                  try clear c22
                  try clear c24
                  try clear c26
                  try clear c27
                  try clear c29
                  try clear c36
                  try clear c37
                  try clear c40
                  try clear c43
                  try clear c54
                  try clear c54b0
                  try clear c56
                  try clear c58
                  try clear p2
                  obtain ⟨kq, x97_45, rfl, HA, HJ45, HO_6, HO_7, HO_11, HO_12, HB⟩ := hcut
                  cases kq with
                  | zero => exact absurd HA.out (by simp [laws_FnExactWords.j1])
                  | succ kj45 =>
                    have H := HA.out
                    clear HA
                    simp only [laws_FnExactWords.j1] at H
                    by_cases c69 : x97_45 = true
                    · subst c69
                      have H1 : (some false) = some true := by rw [if_pos rfl] at H; exact H
                      clear H
                      have H := H1
                      clear H1
                      exact absurd H (by first | (simp; done) | ((repeat' split) <;> simp))
                    · replace c69 := Bool.eq_false_iff.mpr c69
                      subst c69
                      have H1 : ((laws_markIntS.f kj45 t769 1).bind fun bt792 => ((laws_markIntS.f kj45 t770 bt792.1).bind fun bt794 => ((laws_heldIntS.f kj45 bt792.2 1).bind fun t796 => (if t796 < 0 then (some false) else ((laws_heldIntS.f kj45 bt794.2 t796).bind fun t797 => (if t797 < 0 then (some false) else (if t797 = bt794.1 then ((laws_toIntS.f kj45 l0).bind fun t798 => ((laws_toWordOpS.f kj45 l1).bind fun t801 => ((impl_Words.f kj45 t798 t801).bind fun bt804 => ((laws_eqIntS.f kj45 bt804.1 t756).bind fun t811 => (if t811 = true then ((laws_eqIntS.f kj45 bt804.2.1 t757).bind fun t812 => (if t812 = true then (laws_FnExactWords.j2 kj45 bt792.2 bt794.2 bt794.1 (bt804.2.2 != t758)) else (laws_FnExactWords.j2 kj45 bt792.2 bt794.2 bt794.1 true))) else (laws_FnExactWords.j2 kj45 bt792.2 bt794.2 bt794.1 true)))))) else (some false)))))))) = some true := by rw [if_neg (show ¬ (false = true) by decide)] at H; exact H
                      clear H
                      have H := H1
                      clear H1
                      replace H := Option.bind_eq_some_iff.mp H
                      obtain ⟨⟨t792, t793⟩, A700, H⟩ := H
                      replace H : ((laws_markIntS.f kj45 t770 t792).bind fun bt794 => ((laws_heldIntS.f kj45 t793 1).bind fun t796 => (if t796 < 0 then (some false) else ((laws_heldIntS.f kj45 bt794.2 t796).bind fun t797 => (if t797 < 0 then (some false) else (if t797 = bt794.1 then ((laws_toIntS.f kj45 l0).bind fun t798 => ((laws_toWordOpS.f kj45 l1).bind fun t801 => ((impl_Words.f kj45 t798 t801).bind fun bt804 => ((laws_eqIntS.f kj45 bt804.1 t756).bind fun t811 => (if t811 = true then ((laws_eqIntS.f kj45 bt804.2.1 t757).bind fun t812 => (if t812 = true then (laws_FnExactWords.j2 kj45 t793 bt794.2 bt794.1 (bt804.2.2 != t758)) else (laws_FnExactWords.j2 kj45 t793 bt794.2 bt794.1 true))) else (laws_FnExactWords.j2 kj45 t793 bt794.2 bt794.1 true)))))) else (some false))))))) = some true := H
                      have A70 := Aside0.mk A700
                      clear A700
                      replace H := Option.bind_eq_some_iff.mp H
                      obtain ⟨⟨t794, t795⟩, A710, H⟩ := H
                      replace H : ((laws_heldIntS.f kj45 t793 1).bind fun t796 => (if t796 < 0 then (some false) else ((laws_heldIntS.f kj45 t795 t796).bind fun t797 => (if t797 < 0 then (some false) else (if t797 = t794 then ((laws_toIntS.f kj45 l0).bind fun t798 => ((laws_toWordOpS.f kj45 l1).bind fun t801 => ((impl_Words.f kj45 t798 t801).bind fun bt804 => ((laws_eqIntS.f kj45 bt804.1 t756).bind fun t811 => (if t811 = true then ((laws_eqIntS.f kj45 bt804.2.1 t757).bind fun t812 => (if t812 = true then (laws_FnExactWords.j2 kj45 t793 t795 t794 (bt804.2.2 != t758)) else (laws_FnExactWords.j2 kj45 t793 t795 t794 true))) else (laws_FnExactWords.j2 kj45 t793 t795 t794 true)))))) else (some false)))))) = some true := H
                      have A71 := Aside0.mk A710
                      clear A710
                      replace H := Option.bind_eq_some_iff.mp H
                      obtain ⟨t796, A720, H⟩ := H
                      replace H : (if t796 < 0 then (some false) else ((laws_heldIntS.f kj45 t795 t796).bind fun t797 => (if t797 < 0 then (some false) else (if t797 = t794 then ((laws_toIntS.f kj45 l0).bind fun t798 => ((laws_toWordOpS.f kj45 l1).bind fun t801 => ((impl_Words.f kj45 t798 t801).bind fun bt804 => ((laws_eqIntS.f kj45 bt804.1 t756).bind fun t811 => (if t811 = true then ((laws_eqIntS.f kj45 bt804.2.1 t757).bind fun t812 => (if t812 = true then (laws_FnExactWords.j2 kj45 t793 t795 t794 (bt804.2.2 != t758)) else (laws_FnExactWords.j2 kj45 t793 t795 t794 true))) else (laws_FnExactWords.j2 kj45 t793 t795 t794 true)))))) else (some false))))) = some true := H
                      have A72 := Aside0.mk A720
                      clear A720
                      by_cases c73 : t796 < 0
                      · rw [if_pos c73] at H
                        have c73b0 : decide (t796 < 0) = true := decide_eq_true c73
                        clear c73
                        exact absurd H (by first | (simp; done) | ((repeat' split) <;> simp))
                      · rw [if_neg c73] at H
                        have c73b0 : decide (t796 < 0) = false := decide_eq_false c73
                        clear c73
                        replace H := Option.bind_eq_some_iff.mp H
                        obtain ⟨t797, A740, H⟩ := H
                        replace H : (if t797 < 0 then (some false) else (if t797 = t794 then ((laws_toIntS.f kj45 l0).bind fun t798 => ((laws_toWordOpS.f kj45 l1).bind fun t801 => ((impl_Words.f kj45 t798 t801).bind fun bt804 => ((laws_eqIntS.f kj45 bt804.1 t756).bind fun t811 => (if t811 = true then ((laws_eqIntS.f kj45 bt804.2.1 t757).bind fun t812 => (if t812 = true then (laws_FnExactWords.j2 kj45 t793 t795 t794 (bt804.2.2 != t758)) else (laws_FnExactWords.j2 kj45 t793 t795 t794 true))) else (laws_FnExactWords.j2 kj45 t793 t795 t794 true)))))) else (some false))) = some true := H
                        have A74 := Aside0.mk A740
                        clear A740
                        by_cases c75 : t797 < 0
                        · rw [if_pos c75] at H
                          have c75b0 : decide (t797 < 0) = true := decide_eq_true c75
                          clear c75
                          exact absurd H (by first | (simp; done) | ((repeat' split) <;> simp))
                        · rw [if_neg c75] at H
                          have c75b0 : decide (t797 < 0) = false := decide_eq_false c75
                          clear c75
                          by_cases c76 : t797 = t794
                          · rw [if_pos c76] at H
                            have c76b0 : (t797 == t794) = true := beq_iff_eq.mpr c76
                            have c76b1 : (t797 != t794) = false := bne_eq_false_iff_eq.mpr c76
                            clear c76
                            replace H := Option.bind_eq_some_iff.mp H
                            obtain ⟨t798, A770, H⟩ := H
                            replace H : ((laws_toWordOpS.f kj45 l1).bind fun t801 => ((impl_Words.f kj45 t798 t801).bind fun bt804 => ((laws_eqIntS.f kj45 bt804.1 t756).bind fun t811 => (if t811 = true then ((laws_eqIntS.f kj45 bt804.2.1 t757).bind fun t812 => (if t812 = true then (laws_FnExactWords.j2 kj45 t793 t795 t794 (bt804.2.2 != t758)) else (laws_FnExactWords.j2 kj45 t793 t795 t794 true))) else (laws_FnExactWords.j2 kj45 t793 t795 t794 true))))) = some true := H
                            have A77 := Aside0.mk A770
                            clear A770
                            replace H := Option.bind_eq_some_iff.mp H
                            obtain ⟨t801, A780, H⟩ := H
                            replace H : ((impl_Words.f kj45 t798 t801).bind fun bt804 => ((laws_eqIntS.f kj45 bt804.1 t756).bind fun t811 => (if t811 = true then ((laws_eqIntS.f kj45 bt804.2.1 t757).bind fun t812 => (if t812 = true then (laws_FnExactWords.j2 kj45 t793 t795 t794 (bt804.2.2 != t758)) else (laws_FnExactWords.j2 kj45 t793 t795 t794 true))) else (laws_FnExactWords.j2 kj45 t793 t795 t794 true)))) = some true := H
                            have A78 := Aside0.mk A780
                            clear A780
                            replace H := Option.bind_eq_some_iff.mp H
                            obtain ⟨⟨t804, t805, t806⟩, A790, H⟩ := H
                            replace H : ((laws_eqIntS.f kj45 t804 t756).bind fun t811 => (if t811 = true then ((laws_eqIntS.f kj45 t805 t757).bind fun t812 => (if t812 = true then (laws_FnExactWords.j2 kj45 t793 t795 t794 (t806 != t758)) else (laws_FnExactWords.j2 kj45 t793 t795 t794 true))) else (laws_FnExactWords.j2 kj45 t793 t795 t794 true))) = some true := H
                            have A79 := Aside0.mk A790
                            clear A790
                            have HC80 := Aside0.mk H
                            clear H
                            obtain ⟨Ao81, co81, eo81⟩ := Kd.R_slice HO_11.out
                            subst eo81
                            go_upto_region 35 with (first | ((with_reducible refine gate_callee (f := 17) rfl ?_); refine goesL_ (some 100) rfl rfl Try.func17 (by kernel_rfl) rfl #[.slice Ao81 t769.length co81, .int .i64 1] rfl (by (try simp only [List.map_toArray, List.map_cons, List.map_nil]); first | done | rfl | (simp only [List.length_drop, List.length_take]; rfl)) ?_; (with_reducible refine (laws_markIntS.calls kj45 (fun k_ => some k_ = (.slice Ao81 t769.length co81 : Value).ownBlock) (.slice Ao81 t769.length co81) t769 1 t792 t793 w _ ?side1 ?side2 A70.out).mono ?_); (case side1 => repeat (first | (with_reducible first | exact HB.out | apply below_alloc | apply pw_below_drewN | apply below_drew1) | exact HB.out)); (case side2 => exact Kd.R_tight rfl HO_11.out); rintro e w82 ⟨rfl, hy0, hb, hkp⟩; refine ⟨_, rfl, ?_⟩; have n0_ := Aside0.mk (Kd.R_mono (ok' := fun k_ => some k_ ≠ (v761 : Value).ownBlock ∧ some k_ ≠ (.slice Ao81 t769.length co81 : Value).ownBlock ∧ some k_ ≠ (v774 : Value).ownBlock) (Kd.R_keptB (HO_6.out) hkp (fun k_ hk_ hs_ => (hk_.2.1) hs_)) (fun k_ hk_ => ⟨hk_.1.1, hk_.1.2.1, hk_.1.2.2⟩)); have n1_ := Aside0.mk (Kd.R_mono (ok' := fun k_ => some k_ ≠ (v759 : Value).ownBlock ∧ some k_ ≠ (.slice Ao81 t769.length co81 : Value).ownBlock ∧ some k_ ≠ (v774 : Value).ownBlock) (Kd.R_keptB (HO_7.out) hkp (fun k_ hk_ hs_ => (hk_.2.1) hs_)) (fun k_ hk_ => ⟨hk_.1.1, hk_.1.2.1, hk_.1.2.2⟩)); have n2_ := Aside0.mk (Kd.R_reok rfl hy0 (fun k_ e_ => HO_11.out.1 k_ e_)); have n3_ := Aside0.mk (Kd.R_mono (ok' := fun k_ => some k_ ≠ (v759 : Value).ownBlock ∧ some k_ ≠ (v761 : Value).ownBlock ∧ some k_ ≠ (.slice Ao81 t769.length co81 : Value).ownBlock) (Kd.R_keptB (HO_12.out) hkp (fun k_ hk_ hs_ => (hk_.2.2) hs_)) (fun k_ hk_ => ⟨hk_.1.1, hk_.1.2.1, hk_.1.2.2⟩)); have n4_ := Aside0.mk (hb); clear HO_6; clear HO_7; clear HO_11; clear HO_12; clear HB; have HO_6 := n0_; have HO_7 := n1_; have HO_11 := n2_; have HO_12 := n3_; have HB := n4_; clear n0_ n1_ n2_ n3_ n4_; (try clear hb); (try clear hkp); (try clear hy0); obtain ⟨Ao83, co83, eo83⟩ := Kd.R_slice HO_12.out; subst eo83) | ((with_reducible refine gate_callee (f := 17) rfl ?_); refine goesL_ (some 103) rfl rfl Try.func17 (by kernel_rfl) rfl #[.slice Ao83 t770.length co83, .int .i64 t792] rfl (by (try simp only [List.map_toArray, List.map_cons, List.map_nil]); first | done | rfl | (simp only [List.length_drop, List.length_take]; rfl)) ?_; (with_reducible refine (laws_markIntS.calls kj45 (fun k_ => some k_ = (.slice Ao83 t770.length co83 : Value).ownBlock) (.slice Ao83 t770.length co83) t770 t792 t794 t795 w _ ?side1 ?side2 A71.out).mono ?_); (case side1 => repeat (first | (with_reducible first | exact HB.out | apply below_alloc | apply pw_below_drewN | apply below_drew1) | exact HB.out)); (case side2 => exact Kd.R_tight rfl HO_12.out); rintro e w84 ⟨rfl, hy0, hb, hkp⟩; refine ⟨_, rfl, ?_⟩; have n0_ := Aside0.mk (Kd.R_mono (ok' := fun k_ => some k_ ≠ (v761 : Value).ownBlock ∧ some k_ ≠ (.slice Ao81 t769.length co81 : Value).ownBlock ∧ some k_ ≠ (.slice Ao83 t770.length co83 : Value).ownBlock) (Kd.R_keptB (HO_6.out) hkp (fun k_ hk_ hs_ => (hk_.2.2) hs_)) (fun k_ hk_ => ⟨hk_.1.1, hk_.1.2.1, hk_.1.2.2⟩)); have n1_ := Aside0.mk (Kd.R_mono (ok' := fun k_ => some k_ ≠ (v759 : Value).ownBlock ∧ some k_ ≠ (.slice Ao81 t769.length co81 : Value).ownBlock ∧ some k_ ≠ (.slice Ao83 t770.length co83 : Value).ownBlock) (Kd.R_keptB (HO_7.out) hkp (fun k_ hk_ hs_ => (hk_.2.2) hs_)) (fun k_ hk_ => ⟨hk_.1.1, hk_.1.2.1, hk_.1.2.2⟩)); have n2_ := Aside0.mk (Kd.R_mono (ok' := fun k_ => some k_ ≠ (v759 : Value).ownBlock ∧ some k_ ≠ (v761 : Value).ownBlock ∧ some k_ ≠ (.slice Ao83 t770.length co83 : Value).ownBlock) (Kd.R_keptB (HO_11.out) hkp (fun k_ hk_ hs_ => (hk_.2.2) hs_)) (fun k_ hk_ => ⟨hk_.1.1, hk_.1.2.1, hk_.1.2.2⟩)); have n3_ := Aside0.mk (Kd.R_reok rfl hy0 (fun k_ e_ => HO_12.out.1 k_ e_)); have n4_ := Aside0.mk (hb); clear HO_6; clear HO_7; clear HO_11; clear HO_12; clear HB; have HO_6 := n0_; have HO_7 := n1_; have HO_11 := n2_; have HO_12 := n3_; have HB := n4_; clear n0_ n1_ n2_ n3_ n4_; (try clear hb); (try clear hkp); (try clear hy0)) | ((with_reducible refine gate_callee (f := 18) rfl ?_); refine goesL_ (some 106) rfl rfl Try.func18 (by kernel_rfl) rfl #[.slice Ao81 t793.length co81, .int .i64 1] rfl (by (try simp only [List.map_toArray, List.map_cons, List.map_nil]); first | done | (rw [show t793.length = t769.length from (Kd.R_reads' HO_11.out).1.symm] <;> rfl) | rfl | (simp only [List.length_drop, List.length_take]; rfl)) ?_; (with_reducible refine (laws_heldIntS.calls kj45 _ _ t793 1 t796 _ ?side1 ?side2 A72.out).mono ?_); (case side1 => repeat (first | exact (Kd.R_reads' HO_11.out).2.2 | (with_reducible refine Kd.C_alloc ?_ _) | (with_reducible refine Kd.C_drewN ?_ _) | (with_reducible refine Kd.C_drew ?_))); (case side2 => rw [show t793.length = t769.length from (Kd.R_reads' HO_11.out).1.symm]; exact (Kd.R_reads' HO_11.out).2.1); rintro e w' ⟨rfl, ⟨nd, rfl⟩⟩; refine ⟨_, rfl, ?_⟩) | ((with_reducible refine gate_callee (f := 18) rfl ?_); refine goesL_ (some 111) rfl rfl Try.func18 (by kernel_rfl) rfl #[.slice Ao83 t795.length co83, .int .i64 t796] rfl (by (try simp only [List.map_toArray, List.map_cons, List.map_nil]); first | done | (rw [show t795.length = t770.length from (Kd.R_reads' HO_12.out).1.symm] <;> rfl) | rfl | (simp only [List.length_drop, List.length_take]; rfl)) ?_; (with_reducible refine (laws_heldIntS.calls kj45 _ _ t795 t796 t797 _ ?side1 ?side2 A74.out).mono ?_); (case side1 => repeat (first | exact (Kd.R_reads' HO_12.out).2.2 | (with_reducible refine Kd.C_alloc ?_ _) | (with_reducible refine Kd.C_drewN ?_ _) | (with_reducible refine Kd.C_drew ?_))); (case side2 => rw [show t795.length = t770.length from (Kd.R_reads' HO_12.out).1.symm]; exact (Kd.R_reads' HO_12.out).2.1); rintro e w' ⟨rfl, ⟨nd, rfl⟩⟩; refine ⟨_, rfl, ?_⟩) | ((with_reducible refine gate_callee (f := 12) rfl ?_); refine goesL_ (some 119) rfl rfl Try.func12 (by kernel_rfl) rfl #[.slice A0 l0.length c0] rfl (by (try simp only [List.map_toArray, List.map_cons, List.map_nil]); first | done | rfl | (simp only [List.length_drop, List.length_take]; rfl)) ?_; (with_reducible refine (laws_toIntS.calls kj45 _ _ l0 t798 _ ?side1 ?side2 A77.out).mono ?_); (case side1 => repeat (first | exact (Kd.C_below HR0.out (by repeat (first | (with_reducible first | exact HB.out | apply below_alloc | apply pw_below_drewN | apply below_drew1) | exact HB.out))) | (with_reducible refine Kd.C_alloc ?_ _) | (with_reducible refine Kd.C_drewN ?_ _) | (with_reducible refine Kd.C_drew ?_))); (case side2 => exact HC0.out); rintro e w85 ⟨v799, rfl, ho0, hb⟩; refine ⟨_, rfl, ?_⟩; have n0_ := Aside0.mk (Kd.R_elder' (by (with_reducible repeat (first | apply Kd.R_alloc | apply Kd.R_drewN | apply Kd.R_drew)); exact HO_6.out) (Kd.R_base ho0) hb); have n1_ := Aside0.mk (Kd.R_elder' (by (with_reducible repeat (first | apply Kd.R_alloc | apply Kd.R_drewN | apply Kd.R_drew)); exact HO_7.out) (Kd.R_base ho0) hb); have n2_ := Aside0.mk (Kd.R_elder' (by (with_reducible repeat (first | apply Kd.R_alloc | apply Kd.R_drewN | apply Kd.R_drew)); exact HO_11.out) (Kd.R_base ho0) hb); have n3_ := Aside0.mk (Kd.R_elder' (by (with_reducible repeat (first | apply Kd.R_alloc | apply Kd.R_drewN | apply Kd.R_drew)); exact HO_12.out) (Kd.R_base ho0) hb); have n4_ := Aside0.mk (Kd.R_lower (Kd.R_new' (Kd.R_new' (Kd.R_new' (Kd.R_new' ho0 (Kd.R_lt (by (with_reducible repeat (first | apply Kd.R_alloc | apply Kd.R_drewN | apply Kd.R_drew)); exact HO_6.out))) (Kd.R_lt (by (with_reducible repeat (first | apply Kd.R_alloc | apply Kd.R_drewN | apply Kd.R_drew)); exact HO_7.out))) (Kd.R_lt (by (with_reducible repeat (first | apply Kd.R_alloc | apply Kd.R_drewN | apply Kd.R_drew)); exact HO_11.out))) (Kd.R_lt (by (with_reducible repeat (first | apply Kd.R_alloc | apply Kd.R_drewN | apply Kd.R_drew)); exact HO_12.out))) (below_size (by repeat (first | (with_reducible first | exact HB.out | apply below_alloc | apply pw_below_drewN | apply below_drew1) | exact HB.out)))); have n5_ := Aside0.mk (below_step (by repeat (first | (with_reducible first | exact HB.out | apply below_alloc | apply pw_below_drewN | apply below_drew1) | exact HB.out)) hb); clear HO_6; clear HO_7; clear HO_11; clear HO_12; clear HB; have HO_6 := n0_; have HO_7 := n1_; have HO_11 := n2_; have HO_12 := n3_; have HO800 := n4_; have HB := n5_; clear n0_ n1_ n2_ n3_ n4_ n5_; (try clear hb); (try clear hb2); (try clear hk); (try clear hi); (try clear ho0)) | ((with_reducible refine gate_callee (f := 24) rfl ?_); refine goesL_ (some 121) rfl rfl Try.func24 (by kernel_rfl) rfl #[.slice A1 l1.length c1] rfl (by (try simp only [List.map_toArray, List.map_cons, List.map_nil]); first | done | rfl | (simp only [List.length_drop, List.length_take]; rfl)) ?_; (with_reducible refine (laws_toWordOpS.calls kj45 _ _ l1 t801 _ ?side1 ?side2 A78.out).mono ?_); (case side1 => repeat (first | exact (Kd.C_below HR1.out HB.out) | (with_reducible refine Kd.C_alloc ?_ _) | (with_reducible refine Kd.C_drewN ?_ _) | (with_reducible refine Kd.C_drew ?_))); (case side2 => exact HC1.out); rintro e w86 ⟨v802, rfl, ho0, hb⟩; refine ⟨_, rfl, ?_⟩; have n0_ := Aside0.mk (Kd.R_below (by (with_reducible repeat (first | apply Kd.R_alloc | apply Kd.R_drewN | apply Kd.R_drew)); exact HO_6.out) hb); have n1_ := Aside0.mk (Kd.R_below (by (with_reducible repeat (first | apply Kd.R_alloc | apply Kd.R_drewN | apply Kd.R_drew)); exact HO_7.out) hb); have n2_ := Aside0.mk (Kd.R_below (by (with_reducible repeat (first | apply Kd.R_alloc | apply Kd.R_drewN | apply Kd.R_drew)); exact HO_11.out) hb); have n3_ := Aside0.mk (Kd.R_below (by (with_reducible repeat (first | apply Kd.R_alloc | apply Kd.R_drewN | apply Kd.R_drew)); exact HO_12.out) hb); have n4_ := Aside0.mk (Kd.R_below (by (with_reducible repeat (first | apply Kd.R_alloc | apply Kd.R_drewN | apply Kd.R_drew)); exact HO800.out) hb); have n5_ := Aside0.mk (Kd.R_lower ho0 (below_size (by repeat (first | (with_reducible first | exact HB.out | apply below_alloc | apply pw_below_drewN | apply below_drew1) | exact HB.out)))); have n6_ := Aside0.mk (below_step (by repeat (first | (with_reducible first | exact HB.out | apply below_alloc | apply pw_below_drewN | apply below_drew1) | exact HB.out)) hb); clear HO_6; clear HO_7; clear HO_11; clear HO_12; clear HO800; clear HB; have HO_6 := n0_; have HO_7 := n1_; have HO_11 := n2_; have HO_12 := n3_; have HO800 := n4_; have HO803 := n5_; have HB := n6_; clear n0_ n1_ n2_ n3_ n4_ n5_ n6_; (try clear hb); (try clear hb2); (try clear hk); (try clear hi); (try clear ho0); obtain ⟨Ao87, co87, eo87⟩ := Kd.R_slice HO800.out; subst eo87; obtain ⟨Ao88, co88, eo88⟩ := Kd.R_slice HO803.out; subst eo88) | ((with_reducible refine gate_callee (f := 37) rfl ?_); refine goesL_ (some 122) rfl rfl Try.func37 (by kernel_rfl) rfl #[.slice Ao87 t798.length co87, .slice Ao88 t801.length co88] rfl (by (try simp only [List.map_toArray, List.map_cons, List.map_nil]); first | done | rfl | (simp only [List.length_drop, List.length_take]; rfl)) ?_; (with_reducible refine (impl_Words.calls kj45 _ _ t798 _ _ t801 t804 t805 t806 _ ?side1 ?side2 ?side3 ?side4 A79.out).mono ?_); (case side1 => repeat (first | exact (Kd.R_reads' HO800.out).2.2 | (with_reducible refine Kd.C_alloc ?_ _) | (with_reducible refine Kd.C_drewN ?_ _) | (with_reducible refine Kd.C_drew ?_))); (case side2 => exact (Kd.R_reads' HO800.out).2.1); (case side3 => repeat (first | exact (Kd.R_reads' HO803.out).2.2 | (with_reducible refine Kd.C_alloc ?_ _) | (with_reducible refine Kd.C_drewN ?_ _) | (with_reducible refine Kd.C_drew ?_))); (case side4 => exact (Kd.R_reads' HO803.out).2.1); rintro e w89 ⟨v807, v809, rfl, ho0, ho1, hb⟩; refine ⟨_, rfl, ?_⟩; have n0_ := Aside0.mk (Kd.R_mono (Kd.R_told (Kd.R_told (Kd.R_old (by (with_reducible repeat (first | apply Kd.R_alloc | apply Kd.R_drewN | apply Kd.R_drew)); exact HO_6.out) hb) (Kd.R_base ho0)) (Kd.R_base ho1)) (fun _ h_ => h_.1)); have n1_ := Aside0.mk (Kd.R_mono (Kd.R_told (Kd.R_told (Kd.R_old (by (with_reducible repeat (first | apply Kd.R_alloc | apply Kd.R_drewN | apply Kd.R_drew)); exact HO_7.out) hb) (Kd.R_base ho0)) (Kd.R_base ho1)) (fun _ h_ => h_.1)); have n2_ := Aside0.mk (Kd.R_mono (Kd.R_told (Kd.R_told (Kd.R_old (by (with_reducible repeat (first | apply Kd.R_alloc | apply Kd.R_drewN | apply Kd.R_drew)); exact HO_11.out) hb) (Kd.R_base ho0)) (Kd.R_base ho1)) (fun _ h_ => h_.1)); have n3_ := Aside0.mk (Kd.R_mono (Kd.R_told (Kd.R_told (Kd.R_old (by (with_reducible repeat (first | apply Kd.R_alloc | apply Kd.R_drewN | apply Kd.R_drew)); exact HO_12.out) hb) (Kd.R_base ho0)) (Kd.R_base ho1)) (fun _ h_ => h_.1)); have n4_ := Aside0.mk (Kd.R_mono (Kd.R_told (Kd.R_told (Kd.R_old (by (with_reducible repeat (first | apply Kd.R_alloc | apply Kd.R_drewN | apply Kd.R_drew)); exact HO800.out) hb) (Kd.R_base ho0)) (Kd.R_base ho1)) (fun _ h_ => h_.1)); have n5_ := Aside0.mk (Kd.R_below (by (with_reducible repeat (first | apply Kd.R_alloc | apply Kd.R_drewN | apply Kd.R_drew)); exact HO803.out) hb); have n6_ := Aside0.mk (Kd.R_lower (Kd.R_new' (Kd.R_new' (Kd.R_new' (Kd.R_new' (Kd.R_new' ho0 (Kd.R_lt (by (with_reducible repeat (first | apply Kd.R_alloc | apply Kd.R_drewN | apply Kd.R_drew)); exact HO_6.out))) (Kd.R_lt (by (with_reducible repeat (first | apply Kd.R_alloc | apply Kd.R_drewN | apply Kd.R_drew)); exact HO_7.out))) (Kd.R_lt (by (with_reducible repeat (first | apply Kd.R_alloc | apply Kd.R_drewN | apply Kd.R_drew)); exact HO_11.out))) (Kd.R_lt (by (with_reducible repeat (first | apply Kd.R_alloc | apply Kd.R_drewN | apply Kd.R_drew)); exact HO_12.out))) (Kd.R_lt (by (with_reducible repeat (first | apply Kd.R_alloc | apply Kd.R_drewN | apply Kd.R_drew)); exact HO800.out))) (below_size (by repeat (first | (with_reducible first | exact HB.out | apply below_alloc | apply pw_below_drewN | apply below_drew1) | exact HB.out)))); have n7_ := Aside0.mk (Kd.R_lower (Kd.R_new' (Kd.R_new' (Kd.R_new' (Kd.R_new' (Kd.R_new' ho1 (Kd.R_lt (by (with_reducible repeat (first | apply Kd.R_alloc | apply Kd.R_drewN | apply Kd.R_drew)); exact HO_6.out))) (Kd.R_lt (by (with_reducible repeat (first | apply Kd.R_alloc | apply Kd.R_drewN | apply Kd.R_drew)); exact HO_7.out))) (Kd.R_lt (by (with_reducible repeat (first | apply Kd.R_alloc | apply Kd.R_drewN | apply Kd.R_drew)); exact HO_11.out))) (Kd.R_lt (by (with_reducible repeat (first | apply Kd.R_alloc | apply Kd.R_drewN | apply Kd.R_drew)); exact HO_12.out))) (Kd.R_lt (by (with_reducible repeat (first | apply Kd.R_alloc | apply Kd.R_drewN | apply Kd.R_drew)); exact HO800.out))) (below_size (by repeat (first | (with_reducible first | exact HB.out | apply below_alloc | apply pw_below_drewN | apply below_drew1) | exact HB.out)))); have n8_ := Aside0.mk (below_step (by repeat (first | (with_reducible first | exact HB.out | apply below_alloc | apply pw_below_drewN | apply below_drew1) | exact HB.out)) hb); clear HO_6; clear HO_7; clear HO_11; clear HO_12; clear HO800; clear HO803; clear HB; have HO_6 := n0_; have HO_7 := n1_; have HO_11 := n2_; have HO_12 := n3_; have HO800 := n4_; have HO803 := n5_; have HO808 := n6_; have HO810 := n7_; have HB := n8_; clear n0_ n1_ n2_ n3_ n4_ n5_ n6_ n7_ n8_; (try clear hb); (try clear hb2); (try clear hk); (try clear hi); (try clear ho0); (try clear ho1)))
                            (try simp only [Act.put, List.setIfInBounds_toArray, List.set_cons_zero, List.set_cons_succ])
                            go_cut [140] (fun v140 wc => ∃ (kq : Nat) (x140_79 : Bool), v140 = .bool x140_79 ∧ Aside0 (laws_FnExactWords.j2 kq t793 t795 t794 x140_79 = some true) ∧ Aside0 (kq ≤ kj45) ∧ Aside0 (Kd.R (Kd.int .i64) 3 wc w.heap.size (fun k_ => some k_ ≠ ((.slice Ao83 t770.length co83) : Value).ownBlock) (.slice Ao81 t769.length co81) t793) ∧ Aside0 (Kd.R (Kd.int .i64) 3 wc w.heap.size (fun k_ => some k_ ≠ ((.slice Ao81 t769.length co81) : Value).ownBlock) (.slice Ao83 t770.length co83) t795) ∧ Aside0 (Below w.heap.size w wc))
                            case first =>
                              have H := HC80.out
                              clear HC80
                              replace H := Option.bind_eq_some_iff.mp H
                              obtain ⟨t811, A900, H⟩ := H
                              replace H : (if t811 = true then ((laws_eqIntS.f kj45 t805 t757).bind fun t812 => (if t812 = true then (laws_FnExactWords.j2 kj45 t793 t795 t794 (t806 != t758)) else (laws_FnExactWords.j2 kj45 t793 t795 t794 true))) else (laws_FnExactWords.j2 kj45 t793 t795 t794 true)) = some true := H
                              have A90 := Aside0.mk A900
                              clear A900
                              by_cases c91 : t811 = true
                              · subst c91
                                have H1 : ((laws_eqIntS.f kj45 t805 t757).bind fun t812 => (if t812 = true then (laws_FnExactWords.j2 kj45 t793 t795 t794 (t806 != t758)) else (laws_FnExactWords.j2 kj45 t793 t795 t794 true))) = some true := by rw [if_pos rfl] at H; exact H
                                clear H
                                have H := H1
                                clear H1
                                replace H := Option.bind_eq_some_iff.mp H
                                obtain ⟨t812, A920, H⟩ := H
                                replace H : (if t812 = true then (laws_FnExactWords.j2 kj45 t793 t795 t794 (t806 != t758)) else (laws_FnExactWords.j2 kj45 t793 t795 t794 true)) = some true := H
                                have A92 := Aside0.mk A920
                                clear A920
                                by_cases c93 : t812 = true
                                · subst c93
                                  have H1 : (laws_FnExactWords.j2 kj45 t793 t795 t794 (t806 != t758)) = some true := by rw [if_pos rfl] at H; exact H
                                  clear H
                                  have H := H1
                                  clear H1
                                  have H' := Aside0.mk H
                                  clear H
                                  obtain ⟨Ao94, co94, eo94⟩ := Kd.R_slice HO808.out
                                  subst eo94
                                  obtain ⟨Ao95, co95, eo95⟩ := Kd.R_slice HO_6.out
                                  subst eo95
                                  go_wp2_with (first | ((with_reducible refine gate_callee (f := 14) rfl ?_); refine goesL_ (some 128) rfl rfl Try.func14 (by kernel_rfl) rfl #[.slice Ao94 t804.length co94, .slice Ao95 t756.length co95] rfl (by (try simp only [List.map_toArray, List.map_cons, List.map_nil]); first | done | rfl | (simp only [List.length_drop, List.length_take]; rfl)) ?_; (with_reducible refine (laws_eqIntS.calls kj45 _ _ t804 _ _ t756 true _ ?side1 ?side2 ?side3 ?side4 A90.out).mono ?_); (case side1 => repeat (first | exact (Kd.R_reads' HO808.out).2.2 | (with_reducible refine Kd.C_alloc ?_ _) | (with_reducible refine Kd.C_drewN ?_ _) | (with_reducible refine Kd.C_drew ?_))); (case side2 => exact (Kd.R_reads' HO808.out).2.1); (case side3 => repeat (first | exact (Kd.R_reads' HO_6.out).2.2 | (with_reducible refine Kd.C_alloc ?_ _) | (with_reducible refine Kd.C_drewN ?_ _) | (with_reducible refine Kd.C_drew ?_))); (case side4 => exact (Kd.R_reads' HO_6.out).2.1); rintro e w' ⟨rfl, ⟨nd, rfl⟩⟩; refine ⟨_, rfl, ?_⟩; obtain ⟨Ao96, co96, eo96⟩ := Kd.R_slice HO810.out; subst eo96; obtain ⟨Ao97, co97, eo97⟩ := Kd.R_slice HO_7.out; subst eo97) | (go_at_call 14; (with_reducible refine (laws_eqIntS.calls kj45 _ _ t805 _ _ t757 true _ ?side1 ?side2 ?side3 ?side4 A92.out).mono ?_); (case side1 => repeat (first | exact (Kd.R_reads' HO810.out).2.2 | (with_reducible refine Kd.C_alloc ?_ _) | (with_reducible refine Kd.C_drewN ?_ _) | (with_reducible refine Kd.C_drew ?_))); (case side2 => exact (Kd.R_reads' HO810.out).2.1); (case side3 => repeat (first | exact (Kd.R_reads' HO_7.out).2.2 | (with_reducible refine Kd.C_alloc ?_ _) | (with_reducible refine Kd.C_drewN ?_ _) | (with_reducible refine Kd.C_drew ?_))); (case side4 => exact (Kd.R_reads' HO_7.out).2.1); rintro e w' ⟨rfl, ⟨nd, rfl⟩⟩))
                                  go_meet
                                  case rel => exact ⟨_, ((t806 != t758)), (by first | rfl | (simp; done) | (simp [*]; done)), H', ⟨by have := HJ11.out; have := HJ45.out; first | omega | exact Nat.le_refl _⟩, ⟨by (with_reducible repeat (first | apply Kd.R_alloc | apply Kd.R_drewN | apply Kd.R_drew)); exact Kd.R_mono HO_11.out (fun _ hk => hk.1.1.1.2.2)⟩, ⟨by (with_reducible repeat (first | apply Kd.R_alloc | apply Kd.R_drewN | apply Kd.R_drew)); exact Kd.R_mono HO_12.out (fun _ hk => hk.1.1.1.2.2)⟩, ⟨by repeat (first | (with_reducible first | exact HB.out | apply below_alloc | apply pw_below_drewN | apply below_drew1) | exact HB.out)⟩⟩
                                · replace c93 := Bool.eq_false_iff.mpr c93
                                  subst c93
                                  have H1 : (laws_FnExactWords.j2 kj45 t793 t795 t794 true) = some true := by rw [if_neg (show ¬ (false = true) by decide)] at H; exact H
                                  clear H
                                  have H := H1
                                  clear H1
                                  have H' := Aside0.mk H
                                  clear H
                                  obtain ⟨Ao98, co98, eo98⟩ := Kd.R_slice HO808.out
                                  subst eo98
                                  obtain ⟨Ao99, co99, eo99⟩ := Kd.R_slice HO_6.out
                                  subst eo99
                                  go_wp2_with (first | ((with_reducible refine gate_callee (f := 14) rfl ?_); refine goesL_ (some 128) rfl rfl Try.func14 (by kernel_rfl) rfl #[.slice Ao98 t804.length co98, .slice Ao99 t756.length co99] rfl (by (try simp only [List.map_toArray, List.map_cons, List.map_nil]); first | done | rfl | (simp only [List.length_drop, List.length_take]; rfl)) ?_; (with_reducible refine (laws_eqIntS.calls kj45 _ _ t804 _ _ t756 true _ ?side1 ?side2 ?side3 ?side4 A90.out).mono ?_); (case side1 => repeat (first | exact (Kd.R_reads' HO808.out).2.2 | (with_reducible refine Kd.C_alloc ?_ _) | (with_reducible refine Kd.C_drewN ?_ _) | (with_reducible refine Kd.C_drew ?_))); (case side2 => exact (Kd.R_reads' HO808.out).2.1); (case side3 => repeat (first | exact (Kd.R_reads' HO_6.out).2.2 | (with_reducible refine Kd.C_alloc ?_ _) | (with_reducible refine Kd.C_drewN ?_ _) | (with_reducible refine Kd.C_drew ?_))); (case side4 => exact (Kd.R_reads' HO_6.out).2.1); rintro e w' ⟨rfl, ⟨nd, rfl⟩⟩; refine ⟨_, rfl, ?_⟩; obtain ⟨Ao100, co100, eo100⟩ := Kd.R_slice HO810.out; subst eo100; obtain ⟨Ao101, co101, eo101⟩ := Kd.R_slice HO_7.out; subst eo101) | (go_at_call 14; (with_reducible refine (laws_eqIntS.calls kj45 _ _ t805 _ _ t757 false _ ?side1 ?side2 ?side3 ?side4 A92.out).mono ?_); (case side1 => repeat (first | exact (Kd.R_reads' HO810.out).2.2 | (with_reducible refine Kd.C_alloc ?_ _) | (with_reducible refine Kd.C_drewN ?_ _) | (with_reducible refine Kd.C_drew ?_))); (case side2 => exact (Kd.R_reads' HO810.out).2.1); (case side3 => repeat (first | exact (Kd.R_reads' HO_7.out).2.2 | (with_reducible refine Kd.C_alloc ?_ _) | (with_reducible refine Kd.C_drewN ?_ _) | (with_reducible refine Kd.C_drew ?_))); (case side4 => exact (Kd.R_reads' HO_7.out).2.1); rintro e w' ⟨rfl, ⟨nd, rfl⟩⟩))
                                  go_meet
                                  case rel => exact ⟨_, (true), (by first | rfl | (simp; done) | (simp [*]; done)), H', ⟨by have := HJ11.out; have := HJ45.out; first | omega | exact Nat.le_refl _⟩, ⟨by (with_reducible repeat (first | apply Kd.R_alloc | apply Kd.R_drewN | apply Kd.R_drew)); exact Kd.R_mono HO_11.out (fun _ hk => hk.1.1.1.2.2)⟩, ⟨by (with_reducible repeat (first | apply Kd.R_alloc | apply Kd.R_drewN | apply Kd.R_drew)); exact Kd.R_mono HO_12.out (fun _ hk => hk.1.1.1.2.2)⟩, ⟨by repeat (first | (with_reducible first | exact HB.out | apply below_alloc | apply pw_below_drewN | apply below_drew1) | exact HB.out)⟩⟩
                              · replace c91 := Bool.eq_false_iff.mpr c91
                                subst c91
                                have H1 : (laws_FnExactWords.j2 kj45 t793 t795 t794 true) = some true := by rw [if_neg (show ¬ (false = true) by decide)] at H; exact H
                                clear H
                                have H := H1
                                clear H1
                                have H' := Aside0.mk H
                                clear H
                                obtain ⟨Ao102, co102, eo102⟩ := Kd.R_slice HO808.out
                                subst eo102
                                obtain ⟨Ao103, co103, eo103⟩ := Kd.R_slice HO_6.out
                                subst eo103
                                go_wp2_with (first | ((with_reducible refine gate_callee (f := 14) rfl ?_); refine goesL_ (some 128) rfl rfl Try.func14 (by kernel_rfl) rfl #[.slice Ao102 t804.length co102, .slice Ao103 t756.length co103] rfl (by (try simp only [List.map_toArray, List.map_cons, List.map_nil]); first | done | rfl | (simp only [List.length_drop, List.length_take]; rfl)) ?_; (with_reducible refine (laws_eqIntS.calls kj45 _ _ t804 _ _ t756 false _ ?side1 ?side2 ?side3 ?side4 A90.out).mono ?_); (case side1 => repeat (first | exact (Kd.R_reads' HO808.out).2.2 | (with_reducible refine Kd.C_alloc ?_ _) | (with_reducible refine Kd.C_drewN ?_ _) | (with_reducible refine Kd.C_drew ?_))); (case side2 => exact (Kd.R_reads' HO808.out).2.1); (case side3 => repeat (first | exact (Kd.R_reads' HO_6.out).2.2 | (with_reducible refine Kd.C_alloc ?_ _) | (with_reducible refine Kd.C_drewN ?_ _) | (with_reducible refine Kd.C_drew ?_))); (case side4 => exact (Kd.R_reads' HO_6.out).2.1); rintro e w' ⟨rfl, ⟨nd, rfl⟩⟩; refine ⟨_, rfl, ?_⟩))
                                go_meet
                                case rel => exact ⟨_, (true), (by first | rfl | (simp; done) | (simp [*]; done)), H', ⟨by have := HJ11.out; have := HJ45.out; first | omega | exact Nat.le_refl _⟩, ⟨by (with_reducible repeat (first | apply Kd.R_alloc | apply Kd.R_drewN | apply Kd.R_drew)); exact Kd.R_mono HO_11.out (fun _ hk => hk.1.1.1.2.2)⟩, ⟨by (with_reducible repeat (first | apply Kd.R_alloc | apply Kd.R_drewN | apply Kd.R_drew)); exact Kd.R_mono HO_12.out (fun _ hk => hk.1.1.1.2.2)⟩, ⟨by repeat (first | (with_reducible first | exact HB.out | apply below_alloc | apply pw_below_drewN | apply below_drew1) | exact HB.out)⟩⟩
                            case rest =>
                              clear HC80
                              try clear c1
                              try clear c2
                              try clear p2
                              try clear c3
                              try clear c3b0
                              try clear c3b1
                              try clear c4
                              try clear c5
                              try clear c5b0
                              try clear c6
                              try clear c7
                              try clear c8
                              try clear c9
                              try clear c12
                              try clear c14
                              try clear c17
                              try clear c18
                              try clear c22
                              try clear c24
                              try clear c26
                              try clear c27
                              try clear c29
                              try clear c36
                              try clear c37
                              try clear c40
                              try clear c43
                              try clear c54
                              try clear c54b0
                              try clear c56
                              try clear c58
                              try clear c69
                              try clear c73
                              try clear c73b0
                              try clear c75
                              try clear c75b0
                              try clear c76
                              try clear c76b0
                              try clear c76b1
                              try clear c91
                              try clear c93
                              try clear p2
                              obtain ⟨kq, x140_79, rfl, HA, HJ79, HO_11, HO_12, HB⟩ := hcut
                              have hl11_79 := (Kd.R_reads' HO_11.out).1
                              rw [hl11_79] at HO_11
                              (try simp only [hl11_79])
                              (try simp only [hl11_79] at HO_12)
                              have hl12_79 := (Kd.R_reads' HO_12.out).1
                              rw [hl12_79] at HO_12
                              (try simp only [hl12_79])
                              (try simp only [hl12_79] at HO_11)
                              cases kq with
                              | zero => exact absurd HA.out (by simp [laws_FnExactWords.j2])
                              | succ kj79 =>
                                have H := HA.out
                                clear HA
                                simp only [laws_FnExactWords.j2] at H
                                by_cases c104 : x140_79 = true
                                · subst c104
                                  have H1 : (some false) = some true := by rw [if_pos rfl] at H; exact H
                                  clear H
                                  have H := H1
                                  clear H1
                                  exact absurd H (by first | (simp; done) | ((repeat' split) <;> simp))
                                · replace c104 := Bool.eq_false_iff.mpr c104
                                  subst c104
                                  have H1 : ((laws_heldIntS.f kj79 t793 1).bind fun t813 => (if t813 < 0 then (some false) else ((laws_heldIntS.f kj79 t795 t813).bind fun t814 => (if t814 < 0 then (some false) else (if t814 = t794 then (some true) else (some false)))))) = some true := by rw [if_neg (show ¬ (false = true) by decide)] at H; exact H
                                  clear H
                                  have H := H1
                                  clear H1
                                  replace H := Option.bind_eq_some_iff.mp H
                                  obtain ⟨t813, A1050, H⟩ := H
                                  replace H : (if t813 < 0 then (some false) else ((laws_heldIntS.f kj79 t795 t813).bind fun t814 => (if t814 < 0 then (some false) else (if t814 = t794 then (some true) else (some false))))) = some true := H
                                  have A105 := Aside0.mk A1050
                                  clear A1050
                                  by_cases c106 : t813 < 0
                                  · rw [if_pos c106] at H
                                    have c106b0 : decide (t813 < 0) = true := decide_eq_true c106
                                    clear c106
                                    exact absurd H (by first | (simp; done) | ((repeat' split) <;> simp))
                                  · rw [if_neg c106] at H
                                    have c106b0 : decide (t813 < 0) = false := decide_eq_false c106
                                    clear c106
                                    replace H := Option.bind_eq_some_iff.mp H
                                    obtain ⟨t814, A1070, H⟩ := H
                                    replace H : (if t814 < 0 then (some false) else (if t814 = t794 then (some true) else (some false))) = some true := H
                                    have A107 := Aside0.mk A1070
                                    clear A1070
                                    by_cases c108 : t814 < 0
                                    · rw [if_pos c108] at H
                                      have c108b0 : decide (t814 < 0) = true := decide_eq_true c108
                                      clear c108
                                      exact absurd H (by first | (simp; done) | ((repeat' split) <;> simp))
                                    · rw [if_neg c108] at H
                                      have c108b0 : decide (t814 < 0) = false := decide_eq_false c108
                                      clear c108
                                      by_cases c109 : t814 = t794
                                      · rw [if_pos c109] at H
                                        have c109b0 : (t814 == t794) = true := beq_iff_eq.mpr c109
                                        have c109b1 : (t814 != t794) = false := bne_eq_false_iff_eq.mpr c109
                                        clear c109
                                        clear H
                                        go_wp2_with (first | ((with_reducible refine gate_callee (f := 18) rfl ?_); refine goesL_ (some 143) rfl rfl Try.func18 (by kernel_rfl) rfl #[.slice Ao81 t793.length co81, .int .i64 1] rfl (by (try simp only [List.map_toArray, List.map_cons, List.map_nil]); first | done | rfl | (simp only [List.length_drop, List.length_take]; rfl)) ?_; (with_reducible refine (laws_heldIntS.calls kj79 _ _ t793 1 t813 _ ?side1 ?side2 A105.out).mono ?_); (case side1 => repeat (first | exact (Kd.R_reads' HO_11.out).2.2 | (with_reducible refine Kd.C_alloc ?_ _) | (with_reducible refine Kd.C_drewN ?_ _) | (with_reducible refine Kd.C_drew ?_))); (case side2 => exact (Kd.R_reads' HO_11.out).2.1); rintro e w' ⟨rfl, ⟨nd, rfl⟩⟩; refine ⟨_, rfl, ?_⟩) | ((with_reducible refine gate_callee (f := 18) rfl ?_); refine goesL_ (some 148) rfl rfl Try.func18 (by kernel_rfl) rfl #[.slice Ao83 t795.length co83, .int .i64 t813] rfl (by (try simp only [List.map_toArray, List.map_cons, List.map_nil]); first | done | rfl | (simp only [List.length_drop, List.length_take]; rfl)) ?_; (with_reducible refine (laws_heldIntS.calls kj79 _ _ t795 t813 t814 _ ?side1 ?side2 A107.out).mono ?_); (case side1 => repeat (first | exact (Kd.R_reads' HO_12.out).2.2 | (with_reducible refine Kd.C_alloc ?_ _) | (with_reducible refine Kd.C_drewN ?_ _) | (with_reducible refine Kd.C_drew ?_))); (case side2 => exact (Kd.R_reads' HO_12.out).2.1); rintro e w' ⟨rfl, ⟨nd, rfl⟩⟩; refine ⟨_, rfl, ?_⟩))
                                        go_ret
                                        (try rw [HT_.out])
                                        (try simp only [HT_.out])
                                        exact ⟨by first | rfl | (simp [errW_none, errW_some] <;> rfl) | (simp [*, errW_none, errW_some] <;> rfl), by repeat (first | (with_reducible first | exact HB.out | apply below_alloc | apply pw_below_drewN | apply below_drew1) | exact HB.out)⟩
                                      · rw [if_neg c109] at H
                                        have c109b0 : (t814 == t794) = false := beq_eq_false_iff_ne.mpr c109
                                        have c109b1 : (t814 != t794) = true := bne_iff_ne.mpr c109
                                        exact absurd H (by first | (simp; done) | ((repeat' split) <;> simp))
                          · rw [if_neg c76] at H
                            have c76b0 : (t797 == t794) = false := beq_eq_false_iff_ne.mpr c76
                            have c76b1 : (t797 != t794) = true := bne_iff_ne.mpr c76
                            exact absurd H (by first | (simp; done) | ((repeat' split) <;> simp))
              · replace c43 := Bool.eq_false_iff.mpr c43
                subst c43
                have H1 : (some false) = some true := by rw [if_neg (show ¬ (false = true) by decide)] at H; exact H
                clear H
                have H := H1
                clear H1
                exact absurd H (by first | (simp; done) | ((repeat' split) <;> simp))
            · replace c40 := Bool.eq_false_iff.mpr c40
              subst c40
              have H1 : (some false) = some true := by rw [if_neg (show ¬ (false = true) by decide)] at H; exact H
              clear H
              have H := H1
              clear H1
              exact absurd H (by first | (simp; done) | ((repeat' split) <;> simp))

/-- THE ONE PURE STATEMENT of laws_FnExactWords. -/
def laws_FnExactWords.Pure : Prop := ∀ (l0 : List Int) (l1 : List (S31)), (l0.length ≤ maxLen ∧ ∀ z0 ∈ l0, (Lit.int .i64 z0).wf = true) → (l1.length ≤ maxLen ∧ ∀ z0 ∈ l1, wf31 z0) → ∃ k, laws_FnExactWords.f k l0 l1 = some true


end Go.Proofs.Ytbhlmgljflggeaa.M
