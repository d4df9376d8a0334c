/- What the Go functions that the law FnWords reaches compute, as plain Lean functions, and that their calls come to just that. Conditions: those that each theorem states. Written by the session's program. -/
import Derived.Test.YtbhlmgljflggeaaVFnWordsB
import Derived.Test.YtbhlmgljflggeaaVFnWords1
import Derived.Test.YtbhlmgljflggeaaSq
import Derived.Test.YtbhlmgljflggeaaWEqStruct
namespace Go.Proofs.Ytbhlmgljflggeaa.M
open Go.RowKit Go.Proofs.YtbhlmgljflggeaaW.PrintWords Go.Proofs.YtbhlmgljflggeaaW.PrintLast Go.Proofs.YtbhlmgljflggeaaW.PrintMore
open Go.Proofs.Ytbhlmgljflggeaa.Sq
attribute [local go_sem] max2_int min2_int max_two min_two max_three min_three max_four min_four   -- for this text's walks alone
set_option linter.unusedVariables false
set_option linter.unusedSimpArgs false

theorem eqA34 (d : Nat) (w : World) (x0 y0 : Int) (x1 y1 : Int) (x2 y2 : Int) (x3 y3 : Int) :
    (Op.equalIn (d + 2) 34 (.agg #[.int .i64 x0, .int .i64 x1, .int .i64 x2, .int .i64 x3]) (.agg #[.int .i64 y0, .int .i64 y1, .int .i64 y2, .int .i64 y3])).run Try.prog w = .ok (x0 == y0 && (x1 == y1 && (x2 == y2 && (x3 == y3)))) w := by
  refine eqA_of Try.underlying34 (by kernel_rfl) ?_
  refine eqf_cons (by rfl) (by go_simp; rfl) (by go_simp; rfl) (by go_simp) ?_
  refine eqf_cons (by rfl) (by go_simp; rfl) (by go_simp; rfl) (by go_simp) ?_
  refine eqf_cons (by rfl) (by go_simp; rfl) (by go_simp; rfl) (by go_simp) ?_
  exact eqf_last (by rfl) (by go_simp; rfl) (by go_simp; rfl) (by go_simp)
attribute [local go_sem high] eqA34
mutual
def laws_FnWords.j0 : Nat → List Int → List Int → List Int → Int → Bool → Bool → Int → Int → Int → Int → Option (Bool)
  | 0, _, _, _, _, _, _, _, _, _, _ => none
  | k + 1, x0, x3, x5, x6, x7, x57, x350000, x350001, x350002, x350003 => if x57 = true then (some false) else (if x7 = true then (if x350000 = 4 then (if 0 ≤ x350001 then (if x350001 < (x5.length : Int) then (if (rd x5 x350001) = x350003 then (if ((x6 == x350002) != (x6 == x350002)) = true then (laws_FnWords.j1 k x0 x3 x5 true x350000 x350001 x350002 x350003) else (if x350000 = 1 then (if x350001 < (x3.length : Int) then (laws_FnWords.j1 k x0 x3 x5 (x6 != (rd x3 x350001)) x350000 x350001 x350002 x350003) else (none)) else (laws_FnWords.j1 k x0 x3 x5 false x350000 x350001 x350002 x350003))) else (if ((x6 == x350002) != false) = true then (laws_FnWords.j1 k x0 x3 x5 true x350000 x350001 x350002 x350003) else (if x350000 = 1 then (if x350001 < (x3.length : Int) then (laws_FnWords.j1 k x0 x3 x5 (x6 != (rd x3 x350001)) x350000 x350001 x350002 x350003) else (none)) else (laws_FnWords.j1 k x0 x3 x5 false x350000 x350001 x350002 x350003)))) else (none)) else (none)) else (if x350000 = 1 then (if 0 ≤ x350001 then (if x350001 < (x3.length : Int) then (laws_FnWords.j1 k x0 x3 x5 (x6 != (rd x3 x350001)) x350000 x350001 x350002 x350003) else (none)) else (none)) else (laws_FnWords.j1 k x0 x3 x5 false x350000 x350001 x350002 x350003))) else ((laws_sameInts.f k x5 x3).bind fun t362 => (if t362 = true then (some (x6 == 0)) else (some false))))
def laws_FnWords.j1 : Nat → List Int → List Int → List Int → Bool → Int → Int → Int → Int → Option (Bool)
  | 0, _, _, _, _, _, _, _, _ => none
  | k + 1, x0, x3, x5, x104, x350000, x350001, x350002, x350003 => if x104 = true then (some false) else (laws_FnWords.l0 k x0 x3 x5 0 x350000 x350001 x350002 x350003)
def laws_FnWords.l0 : Nat → List Int → List Int → List Int → Int → Int → Int → Int → Int → Option (Bool)
  | 0, _, _, _, _, _, _, _, _ => none
  | k + 1, x0, x3, x5, x11, x350000, x350001, x350002, x350003 => if x11 < (x3.length : Int) then (if x11 = x350001 then (laws_FnWords.l0 k x0 x3 x5 (wrap64 (x11 + 1)) x350000 x350001 x350002 x350003) else (if 0 ≤ x11 then (if x11 < (x5.length : Int) then (if (rd x5 x11) = (rd x3 x11) then (laws_FnWords.l0 k x0 x3 x5 (wrap64 (x11 + 1)) x350000 x350001 x350002 x350003) else (some false)) else (none)) else (none))) else ((spec_DrawMerged.f k x0).bind fun bt369 => ((impl_Merged.f k bt369.1 bt369.2.1 bt369.2.2).bind fun t378 => (if (t378.length : Int) = (wrap64 ((bt369.1.length : Int) + (bt369.2.1.length : Int))) then (laws_FnWords.l1 k bt369.1 bt369.2.1 bt369.2.2 t378 0 0 0) else (some false))))
def laws_FnWords.l1 : Nat → List (S34) → List (S34) → List Bool → List (S34) → Int → Int → Int → Option (Bool)
  | 0, _, _, _, _, _, _, _ => none
  | k + 1, x12, x13, x14, x15, x16, x17, x18 => if x18 < (x15.length : Int) then (if x18 < (x14.length : Int) then (if 0 ≤ x18 then (if rdOf false x14 x18 = true then (if x17 < (x13.length : Int) then (laws_FnWords.j4 k x12 x13 x14 x15 x16 x17 x18 true) else (laws_FnWords.j4 k x12 x13 x14 x15 x16 x17 x18 (x16 == (x12.length : Int)))) else (laws_FnWords.j4 k x12 x13 x14 x15 x16 x17 x18 (x16 == (x12.length : Int)))) else (none)) else (laws_FnWords.j4 k x12 x13 x14 x15 x16 x17 x18 (x16 == (x12.length : Int)))) else (some true)
def laws_FnWords.j4 : Nat → List (S34) → List (S34) → List Bool → List (S34) → Int → Int → Int → Bool → Option (Bool)
  | 0, _, _, _, _, _, _, _, _ => none
  | k + 1, x12, x13, x14, x15, x16, x17, x18, x19 => if x19 = true then (if 0 ≤ x18 then (if x18 < (x15.length : Int) then (if 0 ≤ x17 then (if x17 < (x13.length : Int) then (if (!(((rd_T34 x15 x18).f0) == ((rd_T34 x13 x17).f0)) || (!(((rd_T34 x15 x18).f1) == ((rd_T34 x13 x17).f1)) || (!(((rd_T34 x15 x18).f2) == ((rd_T34 x13 x17).f2)) || (!(((rd_T34 x15 x18).f3) == ((rd_T34 x13 x17).f3)))))) = true then (laws_FnWords.j5 k x12 x13 x14 x15 x16 x17 x18 x19 true) else (laws_FnWords.j5 k x12 x13 x14 x15 x16 x17 x18 x19 false)) else (none)) else (none)) else (none)) else (none)) else (if 0 ≤ x18 then (if x18 < (x15.length : Int) then (if 0 ≤ x16 then (if x16 < (x12.length : Int) then (laws_FnWords.j5 k x12 x13 x14 x15 x16 x17 x18 x19 (!(((rd_T34 x15 x18).f0) == ((rd_T34 x12 x16).f0)) || (!(((rd_T34 x15 x18).f1) == ((rd_T34 x12 x16).f1)) || (!(((rd_T34 x15 x18).f2) == ((rd_T34 x12 x16).f2)) || (!(((rd_T34 x15 x18).f3) == ((rd_T34 x12 x16).f3))))))) else (none)) else (none)) else (none)) else (none))
def laws_FnWords.j5 : Nat → List (S34) → List (S34) → List Bool → List (S34) → Int → Int → Int → Bool → Bool → Option (Bool)
  | 0, _, _, _, _, _, _, _, _, _ => none
  | k + 1, x12, x13, x14, x15, x16, x17, x18, x19, x198 => if x198 = true then (some false) else (if x19 = true then (laws_FnWords.l1 k x12 x13 x14 x15 x16 (wrap64 (x17 + 1)) (wrap64 (x18 + 1))) else (laws_FnWords.l1 k x12 x13 x14 x15 (wrap64 (x16 + 1)) x17 (wrap64 (x18 + 1))))
end
def laws_FnWords.f (k : Nat) (l0 : List Int) : Option (Bool) := (laws_big.f l0).bind fun t341 => (if t341 = true then (some true) else ((spec_DrawWord.f k l0).bind fun bt342 => ((impl_Word.f k bt342.1 bt342.2.1 bt342.2.2.1 bt342.2.2.2.1 bt342.2.2.2.2).bind fun bt350 => ((spec_Word.f k bt342.1 bt342.2.1 bt342.2.2.1 bt342.2.2.2.1 bt342.2.2.2.2).bind fun bt355 => (if (bt350.2.2 != bt355.2.2) = true then (laws_FnWords.j0 k l0 bt342.1 bt350.1 bt350.2.1 bt350.2.2 true bt342.2.1 bt342.2.2.1 bt342.2.2.2.1 bt342.2.2.2.2) else (if (bt350.1.length : Int) = (bt342.1.length : Int) then ((impl_MemoryOk.f k bt342.1).bind fun t360 => ((spec_MemoryOk.f k bt342.1).bind fun t361 => (laws_FnWords.j0 k l0 bt342.1 bt350.1 bt350.2.1 bt350.2.2 (t360 != t361) bt342.2.1 bt342.2.2.1 bt342.2.2.2.1 bt342.2.2.2.2))) else (laws_FnWords.j0 k l0 bt342.1 bt350.1 bt350.2.1 bt350.2.2 true bt342.2.1 bt342.2.2.1 bt342.2.2.2.1 bt342.2.2.2.2)))))))
set_option maxHeartbeats 60000000 in
set_option maxRecDepth 100000 in
theorem laws_FnWords.calls (k : Nat) (A0 : Option Addr) (c0 : Nat) (l0 : List Int) (w : World) (hr0 : Kd.C (Kd.int .u8) w A0 l0.length l0) (hc0 : l0.length ≤ c0) (h : laws_FnWords.f k l0 = some true) :
    Calls Try.prog 7 #[.slice A0 l0.length c0] w fun e w' => e = .returned (.bool true) ∧ Below w.heap.size w w' := by
  have hu34 := Try.underlying34
  have HR0 := Aside0.mk hr0
  have HC0 := Aside0.mk hc0
  clear hr0 hc0
  have HB := Aside0.mk (Below.refl w.heap.size w)
  have H : ((laws_big.f l0).bind fun t341 => (if t341 = true then (some true) else ((spec_DrawWord.f k l0).bind fun bt342 => ((impl_Word.f k bt342.1 bt342.2.1 bt342.2.2.1 bt342.2.2.2.1 bt342.2.2.2.2).bind fun bt350 => ((spec_Word.f k bt342.1 bt342.2.1 bt342.2.2.1 bt342.2.2.2.1 bt342.2.2.2.2).bind fun bt355 => (if (bt350.2.2 != bt355.2.2) = true then (laws_FnWords.j0 k l0 bt342.1 bt350.1 bt350.2.1 bt350.2.2 true bt342.2.1 bt342.2.2.1 bt342.2.2.2.1 bt342.2.2.2.2) else (if (bt350.1.length : Int) = (bt342.1.length : Int) then ((impl_MemoryOk.f k bt342.1).bind fun t360 => ((spec_MemoryOk.f k bt342.1).bind fun t361 => (laws_FnWords.j0 k l0 bt342.1 bt350.1 bt350.2.1 bt350.2.2 (t360 != t361) bt342.2.1 bt342.2.2.1 bt342.2.2.2.1 bt342.2.2.2.2))) else (laws_FnWords.j0 k l0 bt342.1 bt350.1 bt350.2.1 bt350.2.2 true bt342.2.1 bt342.2.2.1 bt342.2.2.2.1 bt342.2.2.2.2)))))))) = some true := h
  clear h
  replace H := bO_ H
  obtain ⟨t341, A2, H⟩ := H
  by_cases c3 : t341 = true
  · subst c3
    have H1 : (some true) = some true := by rfl
    clear H
    have H := H1
    clear H1 H
    go_enter Try.func7, Try.ntmps7
    go_wp2_with (first | (go_at_call 32; (with_reducible refine (laws_big.calls _ _ l0 true _ ?side1 ?side2 A2.out).mono ?_); (case side1 => repeat (first | exact HR0.out | (with_reducible refine Kd.C_alloc ?_ _) | (with_reducible refine Kd.C_drewN ?_ _) | (with_reducible refine Kd.C_drew ?_))); (case side2 => exact HC0.out); rintro e w' ⟨rfl, ⟨nd, rfl⟩⟩; (try first | exact ⟨rfl, _, World.drewN_drewN _ _ _⟩ | exact ⟨rfl, _, Eq.trans (World.drewN_drewN _ _ _) (congrArg (World.drewN _) (Nat.add_assoc _ _ _))⟩)))
    repeat (go_quiet (first | (go_at_call 32; (with_reducible refine (laws_big.calls _ _ l0 true _ ?side1 ?side2 A2.out).mono ?_); (case side1 => repeat (first | exact HR0.out | (with_reducible refine Kd.C_alloc ?_ _) | (with_reducible refine Kd.C_drewN ?_ _) | (with_reducible refine Kd.C_drew ?_))); (case side2 => exact HC0.out); rintro e w' ⟨rfl, ⟨nd, rfl⟩⟩; (try first | exact ⟨rfl, _, World.drewN_drewN _ _ _⟩ | exact ⟨rfl, _, Eq.trans (World.drewN_drewN _ _ _) (congrArg (World.drewN _) (Nat.add_assoc _ _ _))⟩))); try go_wp2_with (first | (go_at_call 32; (with_reducible refine (laws_big.calls _ _ l0 true _ ?side1 ?side2 A2.out).mono ?_); (case side1 => repeat (first | exact HR0.out | (with_reducible refine Kd.C_alloc ?_ _) | (with_reducible refine Kd.C_drewN ?_ _) | (with_reducible refine Kd.C_drew ?_))); (case side2 => exact HC0.out); rintro e w' ⟨rfl, ⟨nd, rfl⟩⟩; (try first | exact ⟨rfl, _, World.drewN_drewN _ _ _⟩ | exact ⟨rfl, _, Eq.trans (World.drewN_drewN _ _ _) (congrArg (World.drewN _) (Nat.add_assoc _ _ _))⟩))))
    go_ret
    (try rw [HT_.out])
    (try simp only [HT_.out])
    exact ⟨by first | rfl | (simp [errW_none, errW_some] <;> rfl) | (simp [*, errW_none, errW_some] <;> rfl), by repeat (first | (with_reducible first | exact HB.out | apply below_alloc | apply pw_below_drewN | apply below_drew1) | exact HB.out)⟩
  ·as_aux_lemma =>
    replace c3 := Bool.eq_false_iff.mpr c3
    subst c3
    rw [if_neg (show ¬ (false = true) by decide)] at H
    replace H := bO_ H
    obtain ⟨⟨t342, t345, t346, t347, t348⟩, A4, H⟩ := H
    replace H := bO_ H
    obtain ⟨⟨t350, t353, t354⟩, A5, H⟩ := H
    replace H := bO_ H
    obtain ⟨⟨t355, t358, t359⟩, A6, H⟩ := H
    have HC7 := Aside0.mk H
    clear H
    go_enter Try.func7, Try.ntmps7
    go_upto_region 6 with (first | (go_at_call 32; (with_reducible refine (laws_big.calls _ _ l0 false _ ?side1 ?side2 A2.out).mono ?_); (case side1 => repeat (first | exact HR0.out | (with_reducible refine Kd.C_alloc ?_ _) | (with_reducible refine Kd.C_drewN ?_ _) | (with_reducible refine Kd.C_drew ?_))); (case side2 => exact HC0.out); rintro e w' ⟨rfl, ⟨nd, rfl⟩⟩; (try first | exact ⟨rfl, _, World.drewN_drewN _ _ _⟩ | exact ⟨rfl, _, Eq.trans (World.drewN_drewN _ _ _) (congrArg (World.drewN _) (Nat.add_assoc _ _ _))⟩)) | (go_at_call 33; (with_reducible refine (spec_DrawWord.calls k _ _ l0 t342 t345 t346 t347 t348 _ ?side1 ?side2 A4.out).mono ?_); (case side1 => repeat (first | exact HR0.out | (with_reducible refine Kd.C_alloc ?_ _) | (with_reducible refine Kd.C_drewN ?_ _) | (with_reducible refine Kd.C_drew ?_))); (case side2 => exact HC0.out); rintro e w8 ⟨v343, rfl, ho0, hb⟩; have qB_ := bS_ (by repeat (first | (with_reducible first | exact HB.out | apply below_alloc | apply pw_below_drewN | apply below_drew1) | exact HB.out)) hb; have HO344 := Aside0.mk (Kd.R_lower ho0 qB_.1); replace HB := Aside0.mk (qB_.2); clear qB_; clear hb ho0) | ((with_reducible refine gate_dst (N := 4) rfl ?_); (try (refine gate_guard (by rfl) ?_; dsimp only)); refine box_event ?hg (N := 4) ?hd (cs := #[.int .i64 0, .int .i64 0, .int .i64 0, .int .i64 0]) (t := 34) ?hr ?_; (case hd => rfl); (case hg => rfl); (case hr => first | (go_simp; done) | (go_simp; rfl)); intro gb349 hg w9 hbox hb; have qB_ := bS_ (by repeat (first | (with_reducible first | exact HB.out | apply below_alloc | apply pw_below_drewN | apply below_drew1) | exact HB.out)) hb; replace HO344 := Aside0.mk (Kd.R_below (by (with_reducible repeat (first | apply Kd.R_alloc | apply Kd.R_drewN | apply Kd.R_drew)); exact HO344.out) hb); replace HB := Aside0.mk (qB_.2); have BK349 := Aside0.mk (hbox); have GW349 := Aside0.mk ((by rw [hg]; exact qB_.1 : w.heap.size ≤ gb349)); have GE349 := GW349; clear qB_; clear hb hbox hg; obtain ⟨hcz10_0, hcz10_1, hcz10_2, hcz10_3, hfz10_0, hfz10_1, hfz10_2, hfz10_3⟩ := cs4_ BK349.out; obtain ⟨Ao11, co11, eo11⟩ := Kd.R_slice HO344.out; subst eo11) | (go_at_call 21; (with_reducible refine (impl_Word.calls k _ _ t342 t345 t346 t347 t348 t350 t353 t354 _ ?side1 ?side2 A5.out).mono ?_); (case side1 => refine (Kd.R_reads' (e := 3) (base := w.heap.size) (ok := fun k_ => True) (n := t342.length) (c := co11) ?_).2.2; exact (by (with_reducible repeat (first | apply Kd.R_alloc | apply Kd.R_drewN | apply Kd.R_drew)); exact (Kd.R_mono (Kd.R_far (p := ⟨gb349, 3, none⟩) (Kd.R_far (p := ⟨gb349, 2, none⟩) (Kd.R_far (p := ⟨gb349, 1, none⟩) (Kd.R_far (p := ⟨gb349, 0, none⟩) (Kd.R_types HO344.out BK349.out (by decide)) (fun _ hk => hk.2) (.int .i64 t345)) (fun _ hk => hk.2) (.int .i64 t346)) (fun _ hk => hk.2) (.int .i64 t347)) (fun _ hk => hk.2) (.int .i64 t348)) (fun _ h_ => h_.1)))); (case side2 => exact (Kd.R_reads' HO344.out).2.1); rintro e w12 ⟨v351, rfl, ho0, hb⟩; have qB_ := bS_ (by repeat (first | (with_reducible first | exact HB.out | apply below_alloc | apply pw_below_drewN | apply below_drew1 | refine below_set ?_ GE349.out) | exact HB.out)) hb; have q0_ := aR_ hb (Kd.R_mono (Kd.R_far (p := ⟨gb349, 3, none⟩) (Kd.R_far (p := ⟨gb349, 2, none⟩) (Kd.R_far (p := ⟨gb349, 1, none⟩) (Kd.R_far (p := ⟨gb349, 0, none⟩) (Kd.R_types HO344.out BK349.out (by decide)) (fun _ hk => hk.2) (.int .i64 t345)) (fun _ hk => hk.2) (.int .i64 t346)) (fun _ hk => hk.2) (.int .i64 t347)) (fun _ hk => hk.2) (.int .i64 t348)) (fun _ h_ => h_.1)); replace HO344 := Aside0.mk (Kd.R_elder' (by (with_reducible repeat (first | apply Kd.R_alloc | apply Kd.R_drewN | apply Kd.R_drew)); exact q0_) (Kd.R_base ho0) hb); have HO352 := Aside0.mk (Kd.R_lower (Kd.R_new' ho0 (Kd.R_lt (by (with_reducible repeat (first | apply Kd.R_alloc | apply Kd.R_drewN | apply Kd.R_drew)); exact q0_))) qB_.1); replace BK349 := Aside0.mk (blk_below (g := gb349) (o := .cells #[.int .i64 t345, .int .i64 t346, .int .i64 t347, .int .i64 t348] 34 (0, 0)) (by apply bE_; (case h => (repeat (first | (with_reducible first | refine blk_drewN ?_ _ | refine blk_drew ?_ | refine blk_alloc ?_ _ | apply blk_set))); exact BK349.out); (case e => rfl)) hb); replace HB := Aside0.mk (qB_.2); clear qB_ q0_; clear hb ho0; obtain ⟨hcz13_0, hcz13_1, hcz13_2, hcz13_3, hfz13_0, hfz13_1, hfz13_2, hfz13_3⟩ := cs4_ BK349.out) | (go_at_call 19; (with_reducible refine (spec_Word.calls k _ _ t342 t345 t346 t347 t348 t355 t358 t359 _ ?side1 ?side2 A6.out).mono ?_); (case side1 => repeat (first | exact (Kd.R_reads' HO344.out).2.2 | (with_reducible refine Kd.C_alloc ?_ _) | (with_reducible refine Kd.C_drewN ?_ _) | (with_reducible refine Kd.C_drew ?_))); (case side2 => exact (Kd.R_reads' HO344.out).2.1); rintro e w14 ⟨v356, rfl, ho0, hb⟩; have qB_ := bS_ (by repeat (first | (with_reducible first | exact HB.out | apply below_alloc | apply pw_below_drewN | apply below_drew1 | refine below_set ?_ GE349.out) | exact HB.out)) hb; have HO357 := Aside0.mk (Kd.R_lower (Kd.R_new' (Kd.R_new' ho0 (Kd.R_lt (by (with_reducible repeat (first | apply Kd.R_alloc | apply Kd.R_drewN | apply Kd.R_drew)); exact HO344.out))) (Kd.R_lt (by (with_reducible repeat (first | apply Kd.R_alloc | apply Kd.R_drewN | apply Kd.R_drew)); exact HO352.out))) qB_.1); replace HO344 := Aside0.mk (Kd.R_elder' (by (with_reducible repeat (first | apply Kd.R_alloc | apply Kd.R_drewN | apply Kd.R_drew)); exact HO344.out) (Kd.R_base ho0) hb); replace HO352 := Aside0.mk (Kd.R_elder' (by (with_reducible repeat (first | apply Kd.R_alloc | apply Kd.R_drewN | apply Kd.R_drew)); exact HO352.out) (Kd.R_base ho0) hb); replace BK349 := Aside0.mk (blk_below (g := gb349) (o := .cells #[.int .i64 t345, .int .i64 t346, .int .i64 t347, .int .i64 t348] 34 (0, 0)) (by (with_reducible repeat (first | refine blk_drewN ?_ _ | refine blk_drew ?_ | refine blk_alloc ?_ _)); exact BK349.out) hb); replace HB := Aside0.mk (qB_.2); clear qB_; clear hb ho0))
    repeat (go_quiet (first | (go_at_call 32; (with_reducible refine (laws_big.calls _ _ l0 false _ ?side1 ?side2 A2.out).mono ?_); (case side1 => repeat (first | exact HR0.out | (with_reducible refine Kd.C_alloc ?_ _) | (with_reducible refine Kd.C_drewN ?_ _) | (with_reducible refine Kd.C_drew ?_))); (case side2 => exact HC0.out); rintro e w' ⟨rfl, ⟨nd, rfl⟩⟩; (try first | exact ⟨rfl, _, World.drewN_drewN _ _ _⟩ | exact ⟨rfl, _, Eq.trans (World.drewN_drewN _ _ _) (congrArg (World.drewN _) (Nat.add_assoc _ _ _))⟩)) | (go_at_call 33; (with_reducible refine (spec_DrawWord.calls k _ _ l0 t342 t345 t346 t347 t348 _ ?side1 ?side2 A4.out).mono ?_); (case side1 => repeat (first | exact HR0.out | (with_reducible refine Kd.C_alloc ?_ _) | (with_reducible refine Kd.C_drewN ?_ _) | (with_reducible refine Kd.C_drew ?_))); (case side2 => exact HC0.out); rintro e w8 ⟨v343, rfl, ho0, hb⟩; have qB_ := bS_ (by repeat (first | (with_reducible first | exact HB.out | apply below_alloc | apply pw_below_drewN | apply below_drew1) | exact HB.out)) hb; have HO344 := Aside0.mk (Kd.R_lower ho0 qB_.1); replace HB := Aside0.mk (qB_.2); clear qB_; clear hb ho0) | ((with_reducible refine gate_dst (N := 4) rfl ?_); (try (refine gate_guard (by rfl) ?_; dsimp only)); refine box_event ?hg (N := 4) ?hd (cs := #[.int .i64 0, .int .i64 0, .int .i64 0, .int .i64 0]) (t := 34) ?hr ?_; (case hd => rfl); (case hg => rfl); (case hr => first | (go_simp; done) | (go_simp; rfl)); intro gb349 hg w9 hbox hb; have qB_ := bS_ (by repeat (first | (with_reducible first | exact HB.out | apply below_alloc | apply pw_below_drewN | apply below_drew1) | exact HB.out)) hb; replace HO344 := Aside0.mk (Kd.R_below (by (with_reducible repeat (first | apply Kd.R_alloc | apply Kd.R_drewN | apply Kd.R_drew)); exact HO344.out) hb); replace HB := Aside0.mk (qB_.2); have BK349 := Aside0.mk (hbox); have GW349 := Aside0.mk ((by rw [hg]; exact qB_.1 : w.heap.size ≤ gb349)); have GE349 := GW349; clear qB_; clear hb hbox hg; obtain ⟨hcz10_0, hcz10_1, hcz10_2, hcz10_3, hfz10_0, hfz10_1, hfz10_2, hfz10_3⟩ := cs4_ BK349.out; obtain ⟨Ao11, co11, eo11⟩ := Kd.R_slice HO344.out; subst eo11) | (go_at_call 21; (with_reducible refine (impl_Word.calls k _ _ t342 t345 t346 t347 t348 t350 t353 t354 _ ?side1 ?side2 A5.out).mono ?_); (case side1 => refine (Kd.R_reads' (e := 3) (base := w.heap.size) (ok := fun k_ => True) (n := t342.length) (c := co11) ?_).2.2; exact (by (with_reducible repeat (first | apply Kd.R_alloc | apply Kd.R_drewN | apply Kd.R_drew)); exact (Kd.R_mono (Kd.R_far (p := ⟨gb349, 3, none⟩) (Kd.R_far (p := ⟨gb349, 2, none⟩) (Kd.R_far (p := ⟨gb349, 1, none⟩) (Kd.R_far (p := ⟨gb349, 0, none⟩) (Kd.R_types HO344.out BK349.out (by decide)) (fun _ hk => hk.2) (.int .i64 t345)) (fun _ hk => hk.2) (.int .i64 t346)) (fun _ hk => hk.2) (.int .i64 t347)) (fun _ hk => hk.2) (.int .i64 t348)) (fun _ h_ => h_.1)))); (case side2 => exact (Kd.R_reads' HO344.out).2.1); rintro e w12 ⟨v351, rfl, ho0, hb⟩; have qB_ := bS_ (by repeat (first | (with_reducible first | exact HB.out | apply below_alloc | apply pw_below_drewN | apply below_drew1 | refine below_set ?_ GE349.out) | exact HB.out)) hb; have q0_ := aR_ hb (Kd.R_mono (Kd.R_far (p := ⟨gb349, 3, none⟩) (Kd.R_far (p := ⟨gb349, 2, none⟩) (Kd.R_far (p := ⟨gb349, 1, none⟩) (Kd.R_far (p := ⟨gb349, 0, none⟩) (Kd.R_types HO344.out BK349.out (by decide)) (fun _ hk => hk.2) (.int .i64 t345)) (fun _ hk => hk.2) (.int .i64 t346)) (fun _ hk => hk.2) (.int .i64 t347)) (fun _ hk => hk.2) (.int .i64 t348)) (fun _ h_ => h_.1)); replace HO344 := Aside0.mk (Kd.R_elder' (by (with_reducible repeat (first | apply Kd.R_alloc | apply Kd.R_drewN | apply Kd.R_drew)); exact q0_) (Kd.R_base ho0) hb); have HO352 := Aside0.mk (Kd.R_lower (Kd.R_new' ho0 (Kd.R_lt (by (with_reducible repeat (first | apply Kd.R_alloc | apply Kd.R_drewN | apply Kd.R_drew)); exact q0_))) qB_.1); replace BK349 := Aside0.mk (blk_below (g := gb349) (o := .cells #[.int .i64 t345, .int .i64 t346, .int .i64 t347, .int .i64 t348] 34 (0, 0)) (by apply bE_; (case h => (repeat (first | (with_reducible first | refine blk_drewN ?_ _ | refine blk_drew ?_ | refine blk_alloc ?_ _ | apply blk_set))); exact BK349.out); (case e => rfl)) hb); replace HB := Aside0.mk (qB_.2); clear qB_ q0_; clear hb ho0; obtain ⟨hcz13_0, hcz13_1, hcz13_2, hcz13_3, hfz13_0, hfz13_1, hfz13_2, hfz13_3⟩ := cs4_ BK349.out) | (go_at_call 19; (with_reducible refine (spec_Word.calls k _ _ t342 t345 t346 t347 t348 t355 t358 t359 _ ?side1 ?side2 A6.out).mono ?_); (case side1 => repeat (first | exact (Kd.R_reads' HO344.out).2.2 | (with_reducible refine Kd.C_alloc ?_ _) | (with_reducible refine Kd.C_drewN ?_ _) | (with_reducible refine Kd.C_drew ?_))); (case side2 => exact (Kd.R_reads' HO344.out).2.1); rintro e w14 ⟨v356, rfl, ho0, hb⟩; have qB_ := bS_ (by repeat (first | (with_reducible first | exact HB.out | apply below_alloc | apply pw_below_drewN | apply below_drew1 | refine below_set ?_ GE349.out) | exact HB.out)) hb; have HO357 := Aside0.mk (Kd.R_lower (Kd.R_new' (Kd.R_new' ho0 (Kd.R_lt (by (with_reducible repeat (first | apply Kd.R_alloc | apply Kd.R_drewN | apply Kd.R_drew)); exact HO344.out))) (Kd.R_lt (by (with_reducible repeat (first | apply Kd.R_alloc | apply Kd.R_drewN | apply Kd.R_drew)); exact HO352.out))) qB_.1); replace HO344 := Aside0.mk (Kd.R_elder' (by (with_reducible repeat (first | apply Kd.R_alloc | apply Kd.R_drewN | apply Kd.R_drew)); exact HO344.out) (Kd.R_base ho0) hb); replace HO352 := Aside0.mk (Kd.R_elder' (by (with_reducible repeat (first | apply Kd.R_alloc | apply Kd.R_drewN | apply Kd.R_drew)); exact HO352.out) (Kd.R_base ho0) hb); replace BK349 := Aside0.mk (blk_below (g := gb349) (o := .cells #[.int .i64 t345, .int .i64 t346, .int .i64 t347, .int .i64 t348] 34 (0, 0)) (by (with_reducible repeat (first | refine blk_drewN ?_ _ | refine blk_drew ?_ | refine blk_alloc ?_ _)); exact BK349.out) hb); replace HB := Aside0.mk (qB_.2); clear qB_; clear hb ho0)); go_upto_region 6 with (first | (go_at_call 32; (with_reducible refine (laws_big.calls _ _ l0 false _ ?side1 ?side2 A2.out).mono ?_); (case side1 => repeat (first | exact HR0.out | (with_reducible refine Kd.C_alloc ?_ _) | (with_reducible refine Kd.C_drewN ?_ _) | (with_reducible refine Kd.C_drew ?_))); (case side2 => exact HC0.out); rintro e w' ⟨rfl, ⟨nd, rfl⟩⟩; (try first | exact ⟨rfl, _, World.drewN_drewN _ _ _⟩ | exact ⟨rfl, _, Eq.trans (World.drewN_drewN _ _ _) (congrArg (World.drewN _) (Nat.add_assoc _ _ _))⟩)) | (go_at_call 33; (with_reducible refine (spec_DrawWord.calls k _ _ l0 t342 t345 t346 t347 t348 _ ?side1 ?side2 A4.out).mono ?_); (case side1 => repeat (first | exact HR0.out | (with_reducible refine Kd.C_alloc ?_ _) | (with_reducible refine Kd.C_drewN ?_ _) | (with_reducible refine Kd.C_drew ?_))); (case side2 => exact HC0.out); rintro e w8 ⟨v343, rfl, ho0, hb⟩; have qB_ := bS_ (by repeat (first | (with_reducible first | exact HB.out | apply below_alloc | apply pw_below_drewN | apply below_drew1) | exact HB.out)) hb; have HO344 := Aside0.mk (Kd.R_lower ho0 qB_.1); replace HB := Aside0.mk (qB_.2); clear qB_; clear hb ho0) | ((with_reducible refine gate_dst (N := 4) rfl ?_); (try (refine gate_guard (by rfl) ?_; dsimp only)); refine box_event ?hg (N := 4) ?hd (cs := #[.int .i64 0, .int .i64 0, .int .i64 0, .int .i64 0]) (t := 34) ?hr ?_; (case hd => rfl); (case hg => rfl); (case hr => first | (go_simp; done) | (go_simp; rfl)); intro gb349 hg w9 hbox hb; have qB_ := bS_ (by repeat (first | (with_reducible first | exact HB.out | apply below_alloc | apply pw_below_drewN | apply below_drew1) | exact HB.out)) hb; replace HO344 := Aside0.mk (Kd.R_below (by (with_reducible repeat (first | apply Kd.R_alloc | apply Kd.R_drewN | apply Kd.R_drew)); exact HO344.out) hb); replace HB := Aside0.mk (qB_.2); have BK349 := Aside0.mk (hbox); have GW349 := Aside0.mk ((by rw [hg]; exact qB_.1 : w.heap.size ≤ gb349)); have GE349 := GW349; clear qB_; clear hb hbox hg; obtain ⟨hcz10_0, hcz10_1, hcz10_2, hcz10_3, hfz10_0, hfz10_1, hfz10_2, hfz10_3⟩ := cs4_ BK349.out; obtain ⟨Ao11, co11, eo11⟩ := Kd.R_slice HO344.out; subst eo11) | (go_at_call 21; (with_reducible refine (impl_Word.calls k _ _ t342 t345 t346 t347 t348 t350 t353 t354 _ ?side1 ?side2 A5.out).mono ?_); (case side1 => refine (Kd.R_reads' (e := 3) (base := w.heap.size) (ok := fun k_ => True) (n := t342.length) (c := co11) ?_).2.2; exact (by (with_reducible repeat (first | apply Kd.R_alloc | apply Kd.R_drewN | apply Kd.R_drew)); exact (Kd.R_mono (Kd.R_far (p := ⟨gb349, 3, none⟩) (Kd.R_far (p := ⟨gb349, 2, none⟩) (Kd.R_far (p := ⟨gb349, 1, none⟩) (Kd.R_far (p := ⟨gb349, 0, none⟩) (Kd.R_types HO344.out BK349.out (by decide)) (fun _ hk => hk.2) (.int .i64 t345)) (fun _ hk => hk.2) (.int .i64 t346)) (fun _ hk => hk.2) (.int .i64 t347)) (fun _ hk => hk.2) (.int .i64 t348)) (fun _ h_ => h_.1)))); (case side2 => exact (Kd.R_reads' HO344.out).2.1); rintro e w12 ⟨v351, rfl, ho0, hb⟩; have qB_ := bS_ (by repeat (first | (with_reducible first | exact HB.out | apply below_alloc | apply pw_below_drewN | apply below_drew1 | refine below_set ?_ GE349.out) | exact HB.out)) hb; have q0_ := aR_ hb (Kd.R_mono (Kd.R_far (p := ⟨gb349, 3, none⟩) (Kd.R_far (p := ⟨gb349, 2, none⟩) (Kd.R_far (p := ⟨gb349, 1, none⟩) (Kd.R_far (p := ⟨gb349, 0, none⟩) (Kd.R_types HO344.out BK349.out (by decide)) (fun _ hk => hk.2) (.int .i64 t345)) (fun _ hk => hk.2) (.int .i64 t346)) (fun _ hk => hk.2) (.int .i64 t347)) (fun _ hk => hk.2) (.int .i64 t348)) (fun _ h_ => h_.1)); replace HO344 := Aside0.mk (Kd.R_elder' (by (with_reducible repeat (first | apply Kd.R_alloc | apply Kd.R_drewN | apply Kd.R_drew)); exact q0_) (Kd.R_base ho0) hb); have HO352 := Aside0.mk (Kd.R_lower (Kd.R_new' ho0 (Kd.R_lt (by (with_reducible repeat (first | apply Kd.R_alloc | apply Kd.R_drewN | apply Kd.R_drew)); exact q0_))) qB_.1); replace BK349 := Aside0.mk (blk_below (g := gb349) (o := .cells #[.int .i64 t345, .int .i64 t346, .int .i64 t347, .int .i64 t348] 34 (0, 0)) (by apply bE_; (case h => (repeat (first | (with_reducible first | refine blk_drewN ?_ _ | refine blk_drew ?_ | refine blk_alloc ?_ _ | apply blk_set))); exact BK349.out); (case e => rfl)) hb); replace HB := Aside0.mk (qB_.2); clear qB_ q0_; clear hb ho0; obtain ⟨hcz13_0, hcz13_1, hcz13_2, hcz13_3, hfz13_0, hfz13_1, hfz13_2, hfz13_3⟩ := cs4_ BK349.out) | (go_at_call 19; (with_reducible refine (spec_Word.calls k _ _ t342 t345 t346 t347 t348 t355 t358 t359 _ ?side1 ?side2 A6.out).mono ?_); (case side1 => repeat (first | exact (Kd.R_reads' HO344.out).2.2 | (with_reducible refine Kd.C_alloc ?_ _) | (with_reducible refine Kd.C_drewN ?_ _) | (with_reducible refine Kd.C_drew ?_))); (case side2 => exact (Kd.R_reads' HO344.out).2.1); rintro e w14 ⟨v356, rfl, ho0, hb⟩; have qB_ := bS_ (by repeat (first | (with_reducible first | exact HB.out | apply below_alloc | apply pw_below_drewN | apply below_drew1 | refine below_set ?_ GE349.out) | exact HB.out)) hb; have HO357 := Aside0.mk (Kd.R_lower (Kd.R_new' (Kd.R_new' ho0 (Kd.R_lt (by (with_reducible repeat (first | apply Kd.R_alloc | apply Kd.R_drewN | apply Kd.R_drew)); exact HO344.out))) (Kd.R_lt (by (with_reducible repeat (first | apply Kd.R_alloc | apply Kd.R_drewN | apply Kd.R_drew)); exact HO352.out))) qB_.1); replace HO344 := Aside0.mk (Kd.R_elder' (by (with_reducible repeat (first | apply Kd.R_alloc | apply Kd.R_drewN | apply Kd.R_drew)); exact HO344.out) (Kd.R_base ho0) hb); replace HO352 := Aside0.mk (Kd.R_elder' (by (with_reducible repeat (first | apply Kd.R_alloc | apply Kd.R_drewN | apply Kd.R_drew)); exact HO352.out) (Kd.R_base ho0) hb); replace BK349 := Aside0.mk (blk_below (g := gb349) (o := .cells #[.int .i64 t345, .int .i64 t346, .int .i64 t347, .int .i64 t348] 34 (0, 0)) (by (with_reducible repeat (first | refine blk_drewN ?_ _ | refine blk_drew ?_ | refine blk_alloc ?_ _)); exact BK349.out) hb); replace HB := Aside0.mk (qB_.2); clear qB_; clear hb ho0)))
    (try simp only [Act.put, sx_, sy_, sz_])
    go_cut [57] (fun v57 wc => ∃ (kq : Nat) (x57_6 : Bool), v57 = .bool x57_6 ∧ Aside0 (laws_FnWords.j0 kq l0 t342 t350 t353 t354 x57_6 t345 t346 t347 t348 = some true) ∧ Aside0 (kq ≤ k) ∧ Aside0 (Kd.R (Kd.int .i64) 3 wc w.heap.size (fun k_ => some k_ ≠ (v351 : Value).ownBlock) (.slice Ao11 t342.length co11) t342) ∧ Aside0 (Kd.R (Kd.int .i64) 3 wc w.heap.size (fun k_ => some k_ ≠ ((.slice Ao11 t342.length co11) : Value).ownBlock) v351 t350) ∧ Aside0 (wc.heap[gb349]? = some (.cells #[.int .i64 t345, .int .i64 t346, .int .i64 t347, .int .i64 t348] 34 (0, 0))) ∧ Aside0 (Below w.heap.size w wc))
    case first =>
      have H := HC7.out
      clear HC7
      by_cases c15 : (t354 != t359) = true
      · rw [if_pos c15] at H
        have c15b0 : (t354 != t359) = true := c15
        (try (have c15b1 : decide (t354 = t359) = false := by simpa using c15))
        (try (have c15b2 : (t354 == t359) = false := by simpa using c15))
        (try (have c15b3 : ¬ (t354 = t359) := by simpa using c15))
        clear c15
        (first | rw [c15b0] | (simp only [i64_w, i32_w]; rw [c15b0]) | skip)
        exact absurd H (by cases k <;> first | (simp [laws_FnWords.j0]; done) | ((repeat' split) <;> simp_all [laws_FnWords.j0]))
      · rw [if_neg c15] at H
        have c15b0 : (t354 != t359) = false := by simpa using c15
        (try (have c15b1 : decide (t354 = t359) = true := by simpa using c15))
        (try (have c15b2 : (t354 == t359) = true := by simpa using c15))
        clear c15
        (first | rw [c15b0] | (simp only [i64_w, i32_w]; rw [c15b0]) | skip)
        by_cases c16 : (t350.length : Int) = (t342.length : Int)
        · rw [if_pos c16] at H
          have c16b0 : ((t350.length : Int) == (t342.length : Int)) = true := beq_iff_eq.mpr c16
          have c16b1 : ((t350.length : Int) != (t342.length : Int)) = false := bne_eq_false_iff_eq.mpr c16
          have c16b2 : (t350.length == t342.length) = true := by first | simpa using c16 | (simp at c16 ⊢; omega)
          clear c16
          replace H := bO_ H
          obtain ⟨t360, A17, H⟩ := H
          replace H := bO_ H
          obtain ⟨t361, A18, H⟩ := H
          have H' := Aside0.mk H
          clear H
          obtain ⟨Ao19, co19, eo19⟩ := Kd.R_slice HO352.out
          subst eo19
          go_wp2_with (first | (go_at_call 13; (with_reducible refine (impl_MemoryOk.calls k _ _ t342 t360 _ ?side1 ?side2 A17.out).mono ?_); (case side1 => repeat (first | exact (Kd.R_reads' HO344.out).2.2 | (with_reducible refine Kd.C_alloc ?_ _) | (with_reducible refine Kd.C_drewN ?_ _) | (with_reducible refine Kd.C_drew ?_))); (case side2 => exact (Kd.R_reads' HO344.out).2.1); rintro e w' ⟨rfl, ⟨nd, rfl⟩⟩; (try first | exact ⟨rfl, _, World.drewN_drewN _ _ _⟩ | exact ⟨rfl, _, Eq.trans (World.drewN_drewN _ _ _) (congrArg (World.drewN _) (Nat.add_assoc _ _ _))⟩)) | (go_at_call 11; (with_reducible refine (spec_MemoryOk.calls k _ _ t342 t361 _ ?side1 ?side2 A18.out).mono ?_); (case side1 => repeat (first | exact (Kd.R_reads' HO344.out).2.2 | (with_reducible refine Kd.C_alloc ?_ _) | (with_reducible refine Kd.C_drewN ?_ _) | (with_reducible refine Kd.C_drew ?_))); (case side2 => exact (Kd.R_reads' HO344.out).2.1); rintro e w' ⟨rfl, ⟨nd, rfl⟩⟩; (try first | exact ⟨rfl, _, World.drewN_drewN _ _ _⟩ | exact ⟨rfl, _, Eq.trans (World.drewN_drewN _ _ _) (congrArg (World.drewN _) (Nat.add_assoc _ _ _))⟩)))
          repeat (go_quiet (first | (go_at_call 13; (with_reducible refine (impl_MemoryOk.calls k _ _ t342 t360 _ ?side1 ?side2 A17.out).mono ?_); (case side1 => repeat (first | exact (Kd.R_reads' HO344.out).2.2 | (with_reducible refine Kd.C_alloc ?_ _) | (with_reducible refine Kd.C_drewN ?_ _) | (with_reducible refine Kd.C_drew ?_))); (case side2 => exact (Kd.R_reads' HO344.out).2.1); rintro e w' ⟨rfl, ⟨nd, rfl⟩⟩; (try first | exact ⟨rfl, _, World.drewN_drewN _ _ _⟩ | exact ⟨rfl, _, Eq.trans (World.drewN_drewN _ _ _) (congrArg (World.drewN _) (Nat.add_assoc _ _ _))⟩)) | (go_at_call 11; (with_reducible refine (spec_MemoryOk.calls k _ _ t342 t361 _ ?side1 ?side2 A18.out).mono ?_); (case side1 => repeat (first | exact (Kd.R_reads' HO344.out).2.2 | (with_reducible refine Kd.C_alloc ?_ _) | (with_reducible refine Kd.C_drewN ?_ _) | (with_reducible refine Kd.C_drew ?_))); (case side2 => exact (Kd.R_reads' HO344.out).2.1); rintro e w' ⟨rfl, ⟨nd, rfl⟩⟩; (try first | exact ⟨rfl, _, World.drewN_drewN _ _ _⟩ | exact ⟨rfl, _, Eq.trans (World.drewN_drewN _ _ _) (congrArg (World.drewN _) (Nat.add_assoc _ _ _))⟩))); try go_wp2_with (first | (go_at_call 13; (with_reducible refine (impl_MemoryOk.calls k _ _ t342 t360 _ ?side1 ?side2 A17.out).mono ?_); (case side1 => repeat (first | exact (Kd.R_reads' HO344.out).2.2 | (with_reducible refine Kd.C_alloc ?_ _) | (with_reducible refine Kd.C_drewN ?_ _) | (with_reducible refine Kd.C_drew ?_))); (case side2 => exact (Kd.R_reads' HO344.out).2.1); rintro e w' ⟨rfl, ⟨nd, rfl⟩⟩; (try first | exact ⟨rfl, _, World.drewN_drewN _ _ _⟩ | exact ⟨rfl, _, Eq.trans (World.drewN_drewN _ _ _) (congrArg (World.drewN _) (Nat.add_assoc _ _ _))⟩)) | (go_at_call 11; (with_reducible refine (spec_MemoryOk.calls k _ _ t342 t361 _ ?side1 ?side2 A18.out).mono ?_); (case side1 => repeat (first | exact (Kd.R_reads' HO344.out).2.2 | (with_reducible refine Kd.C_alloc ?_ _) | (with_reducible refine Kd.C_drewN ?_ _) | (with_reducible refine Kd.C_drew ?_))); (case side2 => exact (Kd.R_reads' HO344.out).2.1); rintro e w' ⟨rfl, ⟨nd, rfl⟩⟩; (try first | exact ⟨rfl, _, World.drewN_drewN _ _ _⟩ | exact ⟨rfl, _, Eq.trans (World.drewN_drewN _ _ _) (congrArg (World.drewN _) (Nat.add_assoc _ _ _))⟩))))
          go_meet
          case rel => exact ⟨_, ((t360 != t361)), (by first | rfl | (simp; done) | (simp [*]; done)), H', ⟨by first | omega | exact Nat.le_refl _⟩, ⟨by (with_reducible repeat (first | apply Kd.R_alloc | apply Kd.R_drewN | apply Kd.R_drew)); exact Kd.R_mono HO344.out (fun _ hk => hk.1.2)⟩, ⟨by (with_reducible repeat (first | apply Kd.R_alloc | apply Kd.R_drewN | apply Kd.R_drew)); exact Kd.R_mono HO352.out (fun _ hk => hk.1.2)⟩, ⟨by (with_reducible repeat (first | refine blk_drewN ?_ _ | refine blk_drew ?_ | refine blk_alloc ?_ _)); exact BK349.out⟩, ⟨by repeat (first | (with_reducible first | exact HB.out | apply below_alloc | apply pw_below_drewN | apply below_drew1 | refine below_set ?_ GE349.out) | exact HB.out)⟩⟩
        · rw [if_neg c16] at H
          have c16b0 : ((t350.length : Int) == (t342.length : Int)) = false := beq_eq_false_iff_ne.mpr c16
          have c16b1 : ((t350.length : Int) != (t342.length : Int)) = true := bne_iff_ne.mpr c16
          have c16b2 : (t350.length == t342.length) = false := by first | simpa using c16 | (simp at c16 ⊢; omega)
          exact absurd H (by cases k <;> first | (simp [laws_FnWords.j0]; done) | ((repeat' split) <;> simp_all [laws_FnWords.j0]))
    case rest =>
     as_aux_lemma =>
      clear HC7
      try clear c1
      try clear p2
      try clear c3
      try clear c7
      try clear c15
      try clear c15b0
      try clear c15b1
      try clear c15b2
      try clear c16
      try clear c16b0
      try clear c16b1
      try clear c16b2
      try clear hcz10_0
      try clear hcz10_1
      try clear hcz10_2
      try clear hcz10_3
      try clear hcz13_0
      try clear hcz13_1
      try clear hcz13_2
      try clear hcz13_3
      try clear hfz10_0
      try clear hfz10_1
      try clear hfz10_2
      try clear hfz10_3
      try clear hfz13_0
      try clear hfz13_1
      try clear hfz13_2
      try clear hfz13_3
      obtain ⟨kq, x57_6, rfl, HA, HJ6, HO_3, HO_5, BK349, HB⟩ := hcut
      cases kq with
      | zero => exact absurd HA.out (by simp [laws_FnWords.j0])
      | succ kj6 =>
        have H := HA.out
        clear HA
        simp only [laws_FnWords.j0] at H
        by_cases c20 : x57_6 = true
        · subst c20
          rw [if_pos rfl] at H
          exact absurd H (by first | (simp; done) | ((repeat' split) <;> simp))
        ·as_aux_lemma =>
          replace c20 := Bool.eq_false_iff.mpr c20
          subst c20
          rw [if_neg (show ¬ (false = true) by decide)] at H
          by_cases c21 : t354 = true
          ·as_aux_lemma =>
            subst c21
            rw [if_pos rfl] at H
            have HC22 := Aside0.mk H
            clear H
            go_upto_region 10 with (fail)
            repeat (go_quiet (fail); go_upto_region 10 with (fail))
            go_cut [104] (fun v104 wc => ∃ (kq : Nat) (x104_21 : Bool), v104 = .bool x104_21 ∧ Aside0 (laws_FnWords.j1 kq l0 t342 t350 x104_21 t345 t346 t347 t348 = some true) ∧ Aside0 (kq ≤ kj6) ∧ Aside0 (Kd.R (Kd.int .i64) 3 wc w.heap.size (fun k_ => some k_ ≠ (v351 : Value).ownBlock) (.slice Ao11 t342.length co11) t342) ∧ Aside0 (Kd.R (Kd.int .i64) 3 wc w.heap.size (fun k_ => some k_ ≠ ((.slice Ao11 t342.length co11) : Value).ownBlock) v351 t350) ∧ Aside0 (wc.heap[gb349]? = some (.cells #[.int .i64 t345, .int .i64 t346, .int .i64 t347, .int .i64 t348] 34 (0, 0))) ∧ Aside0 (Below w.heap.size w wc))
            case first =>
             as_aux_lemma =>
              have H := HC22.out
              clear HC22
              by_cases c23 : t345 = 4
              ·as_aux_lemma =>
                rw [if_pos c23] at H
                have c23b0 : (t345 == 4) = true := beq_iff_eq.mpr c23
                have c23b1 : (t345 != 4) = false := bne_eq_false_iff_eq.mpr c23
                clear c23
                (first | rw [c23b0] | (simp only [i64_w, i32_w]; rw [c23b0]) | skip)
                by_cases c24 : 0 ≤ t346
                ·as_aux_lemma =>
                  rw [if_pos c24] at H
                  have c24b0 : decide (0 ≤ t346) = true := decide_eq_true c24
                  clear c24
                  by_cases c25 : t346 < (t350.length : Int)
                  ·as_aux_lemma =>
                    rw [if_pos c25] at H
                    have c25b0 : decide (t346 < (t350.length : Int)) = true := decide_eq_true c25
                    clear c25
                    by_cases c26 : (rd t350 t346) = t348
                    ·as_aux_lemma =>
                      rw [if_pos c26] at H
                      have c26b0 : ((rd t350 t346) == t348) = true := beq_iff_eq.mpr c26
                      have c26b1 : ((rd t350 t346) != t348) = false := bne_eq_false_iff_eq.mpr c26
                      clear c26
                      by_cases c27 : ((t353 == t347) != (t353 == t347)) = true
                      · rw [if_pos c27] at H
                        have c27b0 : ((t353 == t347) != (t353 == t347)) = true := c27
                        (try (have c27b1 : decide ((t353 == t347) = (t353 == t347)) = false := by simp at c27))
                        (try (have c27b2 : ((t353 == t347) == (t353 == t347)) = false := by simp at c27))
                        (try (have c27b3 : ¬ ((t353 == t347) = (t353 == t347)) := by simp at c27))
                        clear c27
                        exact absurd H (by cases kj6 <;> first | (simp [laws_FnWords.j1]; done) | ((repeat' split) <;> simp_all [laws_FnWords.j1]))
                      · rw [if_neg c27] at H
                        have c27b0 : ((t353 == t347) != (t353 == t347)) = false := by simp
                        (try (have c27b1 : decide ((t353 == t347) = (t353 == t347)) = true := by simp))
                        (try (have c27b2 : ((t353 == t347) == (t353 == t347)) = true := by simp))
                        clear c27
                        by_cases c28 : t345 = 1
                        · rw [if_pos c28] at H
                          have c28b0 : (t345 == 1) = true := beq_iff_eq.mpr c28
                          have c28b1 : (t345 != 1) = false := bne_eq_false_iff_eq.mpr c28
                          clear c28
                          by_cases c29 : t346 < (t342.length : Int)
                          · rw [if_pos c29] at H
                            have c29b0 : decide (t346 < (t342.length : Int)) = true := decide_eq_true c29
                            clear c29
                            have H' := Aside0.mk H
                            clear H
                            obtain ⟨hcz30_0, hcz30_1, hcz30_2, hcz30_3, hfz30_0, hfz30_1, hfz30_2, hfz30_3⟩ := cs4_ BK349.out
                            obtain ⟨Ao31, co31, eo31⟩ := Kd.R_slice HO_5.out
                            subst eo31
                            have p363 : 0 ≤ (t346 : Int) := of_decide_eq_true (by first | (with_reducible assumption) | assumption)
                            have q363 : t346 < (t350.length : Int) := of_decide_eq_true (by first | (with_reducible assumption) | assumption)
                            obtain ⟨ad363, e363, hx363_0⟩ := Kd.at_int (Kd.R_reads' HO_5.out).2.2 t346 p363 q363
                            cases e363
                            replace p363 := eq_true p363
                            replace q363 := eq_true q363
                            have p364 : 0 ≤ (t346 : Int) := of_decide_eq_true (by first | (with_reducible assumption) | assumption)
                            have q364 : t346 < (t342.length : Int) := of_decide_eq_true (by first | (with_reducible assumption) | assumption)
                            obtain ⟨ad364, e364, hx364_0⟩ := Kd.at_int (Kd.R_reads' HO_3.out).2.2 t346 p364 q364
                            cases e364
                            replace p364 := eq_true p364
                            replace q364 := eq_true q364
                            go_wp2
                            repeat (go_quiet (fail); try go_wp2)
                            go_meet
                            case rel => exact ⟨_, ((t353 != (rd t342 t346))), (by first | rfl | (simp; done) | (simp [*]; done)), H', ⟨by have := HJ6.out; first | omega | exact Nat.le_refl _⟩, ⟨by (with_reducible repeat (first | apply Kd.R_alloc | apply Kd.R_drewN | apply Kd.R_drew)); exact HO_3.out⟩, ⟨by (with_reducible repeat (first | apply Kd.R_alloc | apply Kd.R_drewN | apply Kd.R_drew)); exact HO_5.out⟩, ⟨by (with_reducible repeat (first | refine blk_drewN ?_ _ | refine blk_drew ?_ | refine blk_alloc ?_ _)); exact BK349.out⟩, ⟨by repeat (first | (with_reducible first | exact HB.out | apply below_alloc | apply pw_below_drewN | apply below_drew1 | refine below_set ?_ GE349.out) | exact HB.out)⟩⟩
                          · rw [if_neg c29] at H
                            exact absurd H (by simp)
                        · rw [if_neg c28] at H
                          have c28b0 : (t345 == 1) = false := beq_eq_false_iff_ne.mpr c28
                          have c28b1 : (t345 != 1) = true := bne_iff_ne.mpr c28
                          have H' := Aside0.mk H
                          clear H
                          obtain ⟨hcz32_0, hcz32_1, hcz32_2, hcz32_3, hfz32_0, hfz32_1, hfz32_2, hfz32_3⟩ := cs4_ BK349.out
                          obtain ⟨Ao33, co33, eo33⟩ := Kd.R_slice HO_5.out
                          subst eo33
                          have p363 : 0 ≤ (t346 : Int) := of_decide_eq_true (by first | (with_reducible assumption) | assumption)
                          have q363 : t346 < (t350.length : Int) := of_decide_eq_true (by first | (with_reducible assumption) | assumption)
                          obtain ⟨ad363, e363, hx363_0⟩ := Kd.at_int (Kd.R_reads' HO_5.out).2.2 t346 p363 q363
                          cases e363
                          replace p363 := eq_true p363
                          replace q363 := eq_true q363
                          go_wp2
                          repeat (go_quiet (fail); try go_wp2)
                          go_meet
                          case rel => exact ⟨_, (false), (by first | rfl | (simp; done) | (simp [*]; done)), H', ⟨by have := HJ6.out; first | omega | exact Nat.le_refl _⟩, ⟨by (with_reducible repeat (first | apply Kd.R_alloc | apply Kd.R_drewN | apply Kd.R_drew)); exact HO_3.out⟩, ⟨by (with_reducible repeat (first | apply Kd.R_alloc | apply Kd.R_drewN | apply Kd.R_drew)); exact HO_5.out⟩, ⟨by (with_reducible repeat (first | refine blk_drewN ?_ _ | refine blk_drew ?_ | refine blk_alloc ?_ _)); exact BK349.out⟩, ⟨by repeat (first | (with_reducible first | exact HB.out | apply below_alloc | apply pw_below_drewN | apply below_drew1 | refine below_set ?_ GE349.out) | exact HB.out)⟩⟩
                    ·as_aux_lemma =>
                      rw [if_neg c26] at H
                      have c26b0 : ((rd t350 t346) == t348) = false := beq_eq_false_iff_ne.mpr c26
                      have c26b1 : ((rd t350 t346) != t348) = true := bne_iff_ne.mpr c26
                      by_cases c34 : ((t353 == t347) != false) = true
                      · rw [if_pos c34] at H
                        have c34b0 : ((t353 == t347) != false) = true := c34
                        (try (have c34b1 : decide ((t353 == t347) = false) = false := by simpa using c34))
                        (try (have c34b2 : ((t353 == t347) == false) = false := by simpa using c34))
                        (try (have c34b3 : ¬ ((t353 == t347) = false) := by simpa using c34))
                        clear c34
                        exact absurd H (by cases kj6 <;> first | (simp [laws_FnWords.j1]; done) | ((repeat' split) <;> simp_all [laws_FnWords.j1]))
                      · rw [if_neg c34] at H
                        have c34b0 : ((t353 == t347) != false) = false := by simpa using c34
                        (try (have c34b1 : decide ((t353 == t347) = false) = true := by simpa using c34))
                        (try (have c34b2 : ((t353 == t347) == false) = true := by simpa using c34))
                        clear c34
                        by_cases c35 : t345 = 1
                        · rw [if_pos c35] at H
                          have c35b0 : (t345 == 1) = true := beq_iff_eq.mpr c35
                          have c35b1 : (t345 != 1) = false := bne_eq_false_iff_eq.mpr c35
                          clear c35
                          by_cases c36 : t346 < (t342.length : Int)
                          · rw [if_pos c36] at H
                            have c36b0 : decide (t346 < (t342.length : Int)) = true := decide_eq_true c36
                            clear c36
                            have H' := Aside0.mk H
                            clear H
                            obtain ⟨hcz37_0, hcz37_1, hcz37_2, hcz37_3, hfz37_0, hfz37_1, hfz37_2, hfz37_3⟩ := cs4_ BK349.out
                            obtain ⟨Ao38, co38, eo38⟩ := Kd.R_slice HO_5.out
                            subst eo38
                            have p363 : 0 ≤ (t346 : Int) := of_decide_eq_true (by first | (with_reducible assumption) | assumption)
                            have q363 : t346 < (t350.length : Int) := of_decide_eq_true (by first | (with_reducible assumption) | assumption)
                            obtain ⟨ad363, e363, hx363_0⟩ := Kd.at_int (Kd.R_reads' HO_5.out).2.2 t346 p363 q363
                            cases e363
                            replace p363 := eq_true p363
                            replace q363 := eq_true q363
                            have p365 : 0 ≤ (t346 : Int) := of_decide_eq_true (by first | (with_reducible assumption) | assumption)
                            have q365 : t346 < (t342.length : Int) := of_decide_eq_true (by first | (with_reducible assumption) | assumption)
                            obtain ⟨ad365, e365, hx365_0⟩ := Kd.at_int (Kd.R_reads' HO_3.out).2.2 t346 p365 q365
                            cases e365
                            replace p365 := eq_true p365
                            replace q365 := eq_true q365
                            go_wp2
                            repeat (go_quiet (fail); try go_wp2)
                            go_meet
                            case rel => exact ⟨_, ((t353 != (rd t342 t346))), (by first | rfl | (simp; done) | (simp [*]; done)), H', ⟨by have := HJ6.out; first | omega | exact Nat.le_refl _⟩, ⟨by (with_reducible repeat (first | apply Kd.R_alloc | apply Kd.R_drewN | apply Kd.R_drew)); exact HO_3.out⟩, ⟨by (with_reducible repeat (first | apply Kd.R_alloc | apply Kd.R_drewN | apply Kd.R_drew)); exact HO_5.out⟩, ⟨by (with_reducible repeat (first | refine blk_drewN ?_ _ | refine blk_drew ?_ | refine blk_alloc ?_ _)); exact BK349.out⟩, ⟨by repeat (first | (with_reducible first | exact HB.out | apply below_alloc | apply pw_below_drewN | apply below_drew1 | refine below_set ?_ GE349.out) | exact HB.out)⟩⟩
                          · rw [if_neg c36] at H
                            exact absurd H (by simp)
                        · rw [if_neg c35] at H
                          have c35b0 : (t345 == 1) = false := beq_eq_false_iff_ne.mpr c35
                          have c35b1 : (t345 != 1) = true := bne_iff_ne.mpr c35
                          have H' := Aside0.mk H
                          clear H
                          obtain ⟨hcz39_0, hcz39_1, hcz39_2, hcz39_3, hfz39_0, hfz39_1, hfz39_2, hfz39_3⟩ := cs4_ BK349.out
                          obtain ⟨Ao40, co40, eo40⟩ := Kd.R_slice HO_5.out
                          subst eo40
                          have p363 : 0 ≤ (t346 : Int) := of_decide_eq_true (by first | (with_reducible assumption) | assumption)
                          have q363 : t346 < (t350.length : Int) := of_decide_eq_true (by first | (with_reducible assumption) | assumption)
                          obtain ⟨ad363, e363, hx363_0⟩ := Kd.at_int (Kd.R_reads' HO_5.out).2.2 t346 p363 q363
                          cases e363
                          replace p363 := eq_true p363
                          replace q363 := eq_true q363
                          go_wp2
                          repeat (go_quiet (fail); try go_wp2)
                          go_meet
                          case rel => exact ⟨_, (false), (by first | rfl | (simp; done) | (simp [*]; done)), H', ⟨by have := HJ6.out; first | omega | exact Nat.le_refl _⟩, ⟨by (with_reducible repeat (first | apply Kd.R_alloc | apply Kd.R_drewN | apply Kd.R_drew)); exact HO_3.out⟩, ⟨by (with_reducible repeat (first | apply Kd.R_alloc | apply Kd.R_drewN | apply Kd.R_drew)); exact HO_5.out⟩, ⟨by (with_reducible repeat (first | refine blk_drewN ?_ _ | refine blk_drew ?_ | refine blk_alloc ?_ _)); exact BK349.out⟩, ⟨by repeat (first | (with_reducible first | exact HB.out | apply below_alloc | apply pw_below_drewN | apply below_drew1 | refine below_set ?_ GE349.out) | exact HB.out)⟩⟩
                  · rw [if_neg c25] at H
                    exact absurd H (by simp)
                · rw [if_neg c24] at H
                  exact absurd H (by simp)
              · rw [if_neg c23] at H
                have c23b0 : (t345 == 4) = false := beq_eq_false_iff_ne.mpr c23
                have c23b1 : (t345 != 4) = true := bne_iff_ne.mpr c23
                (first | rw [c23b0] | (simp only [i64_w, i32_w]; rw [c23b0]) | skip)
                by_cases c41 : t345 = 1
                · rw [if_pos c41] at H
                  have c41b0 : (t345 == 1) = true := beq_iff_eq.mpr c41
                  have c41b1 : (t345 != 1) = false := bne_eq_false_iff_eq.mpr c41
                  clear c41
                  by_cases c42 : 0 ≤ t346
                  · rw [if_pos c42] at H
                    have c42b0 : decide (0 ≤ t346) = true := decide_eq_true c42
                    clear c42
                    by_cases c43 : t346 < (t342.length : Int)
                    · rw [if_pos c43] at H
                      have c43b0 : decide (t346 < (t342.length : Int)) = true := decide_eq_true c43
                      clear c43
                      have H' := Aside0.mk H
                      clear H
                      obtain ⟨hcz44_0, hcz44_1, hcz44_2, hcz44_3, hfz44_0, hfz44_1, hfz44_2, hfz44_3⟩ := cs4_ BK349.out
                      have p366 : 0 ≤ (t346 : Int) := of_decide_eq_true (by first | (with_reducible assumption) | assumption)
                      have q366 : t346 < (t342.length : Int) := of_decide_eq_true (by first | (with_reducible assumption) | assumption)
                      obtain ⟨ad366, e366, hx366_0⟩ := Kd.at_int (Kd.R_reads' HO_3.out).2.2 t346 p366 q366
                      cases e366
                      replace p366 := eq_true p366
                      replace q366 := eq_true q366
                      go_wp2
                      repeat (go_quiet (fail); try go_wp2)
                      go_meet
                      case rel => exact ⟨_, ((t353 != (rd t342 t346))), (by first | rfl | (simp; done) | (simp [*]; done)), H', ⟨by have := HJ6.out; first | omega | exact Nat.le_refl _⟩, ⟨by (with_reducible repeat (first | apply Kd.R_alloc | apply Kd.R_drewN | apply Kd.R_drew)); exact HO_3.out⟩, ⟨by (with_reducible repeat (first | apply Kd.R_alloc | apply Kd.R_drewN | apply Kd.R_drew)); exact HO_5.out⟩, ⟨by (with_reducible repeat (first | refine blk_drewN ?_ _ | refine blk_drew ?_ | refine blk_alloc ?_ _)); exact BK349.out⟩, ⟨by repeat (first | (with_reducible first | exact HB.out | apply below_alloc | apply pw_below_drewN | apply below_drew1 | refine below_set ?_ GE349.out) | exact HB.out)⟩⟩
                    · rw [if_neg c43] at H
                      exact absurd H (by simp)
                  · rw [if_neg c42] at H
                    exact absurd H (by simp)
                · rw [if_neg c41] at H
                  have c41b0 : (t345 == 1) = false := beq_eq_false_iff_ne.mpr c41
                  have c41b1 : (t345 != 1) = true := bne_iff_ne.mpr c41
                  have H' := Aside0.mk H
                  clear H
                  obtain ⟨hcz45_0, hcz45_1, hcz45_2, hcz45_3, hfz45_0, hfz45_1, hfz45_2, hfz45_3⟩ := cs4_ BK349.out
                  go_wp2
                  repeat (go_quiet (fail); try go_wp2)
                  go_meet
                  case rel => exact ⟨_, (false), (by first | rfl | (simp; done) | (simp [*]; done)), H', ⟨by have := HJ6.out; first | omega | exact Nat.le_refl _⟩, ⟨by (with_reducible repeat (first | apply Kd.R_alloc | apply Kd.R_drewN | apply Kd.R_drew)); exact HO_3.out⟩, ⟨by (with_reducible repeat (first | apply Kd.R_alloc | apply Kd.R_drewN | apply Kd.R_drew)); exact HO_5.out⟩, ⟨by (with_reducible repeat (first | refine blk_drewN ?_ _ | refine blk_drew ?_ | refine blk_alloc ?_ _)); exact BK349.out⟩, ⟨by repeat (first | (with_reducible first | exact HB.out | apply below_alloc | apply pw_below_drewN | apply below_drew1 | refine below_set ?_ GE349.out) | exact HB.out)⟩⟩
            case rest =>
             as_aux_lemma =>
              clear HC22
              try clear c1
              try clear c2
              try clear p2
              try clear c3
              try clear p3
              try clear q3
              try clear hx3
              try clear c4
              try clear c7
              try clear c15
              try clear c15b0
              try clear c15b1
              try clear c15b2
              try clear c16
              try clear c16b0
              try clear c16b1
              try clear c16b2
              try clear c20
              try clear c21
              try clear c23
              try clear c23b0
              try clear c23b1
              try clear c24
              try clear c24b0
              try clear c25
              try clear c25b0
              try clear c26
              try clear c26b0
              try clear c26b1
              try clear c27
              try clear c27b0
              try clear c27b1
              try clear c27b2
              try clear c28
              try clear c28b0
              try clear c28b1
              try clear c29
              try clear c29b0
              try clear c34
              try clear c34b0
              try clear c34b1
              try clear c34b2
              try clear c35
              try clear c35b0
              try clear c35b1
              try clear c36
              try clear c36b0
              try clear p36
              try clear q36
              try clear hx36
              try clear c41
              try clear c41b0
              try clear c41b1
              try clear c42
              try clear c42b0
              try clear c43
              try clear c43b0
              try clear hcz10_0
              try clear hcz10_1
              try clear hcz10_2
              try clear hcz10_3
              try clear hcz13_0
              try clear hcz13_1
              try clear hcz13_2
              try clear hcz13_3
              try clear hcz30_0
              try clear hcz30_1
              try clear hcz30_2
              try clear hcz30_3
              try clear hcz32_0
              try clear hcz32_1
              try clear hcz32_2
              try clear hcz32_3
              try clear hcz37_0
              try clear hcz37_1
              try clear hcz37_2
              try clear hcz37_3
              try clear hcz39_0
              try clear hcz39_1
              try clear hcz39_2
              try clear hcz39_3
              try clear hcz44_0
              try clear hcz44_1
              try clear hcz44_2
              try clear hcz44_3
              try clear hcz45_0
              try clear hcz45_1
              try clear hcz45_2
              try clear hcz45_3
              try clear hfz10_0
              try clear hfz10_1
              try clear hfz10_2
              try clear hfz10_3
              try clear hfz13_0
              try clear hfz13_1
              try clear hfz13_2
              try clear hfz13_3
              try clear hfz30_0
              try clear hfz30_1
              try clear hfz30_2
              try clear hfz30_3
              try clear hfz32_0
              try clear hfz32_1
              try clear hfz32_2
              try clear hfz32_3
              try clear hfz37_0
              try clear hfz37_1
              try clear hfz37_2
              try clear hfz37_3
              try clear hfz39_0
              try clear hfz39_1
              try clear hfz39_2
              try clear hfz39_3
              try clear hfz44_0
              try clear hfz44_1
              try clear hfz44_2
              try clear hfz44_3
              try clear hfz45_0
              try clear hfz45_1
              try clear hfz45_2
              try clear hfz45_3
              try clear hx363_0
              try clear hx364_0
              try clear hx365_0
              try clear hx366_0
              try clear p2
              try clear p363
              try clear p364
              try clear p365
              try clear p366
              try clear q363
              try clear q364
              try clear q365
              try clear q366
              obtain ⟨kq, x104_21, rfl, HA, HJ21, HO_3, HO_5, BK349, HB⟩ := hcut
              cases kq with
              | zero => exact absurd HA.out (by simp [laws_FnWords.j1])
              | succ kj21 =>
                have H := HA.out
                clear HA
                simp only [laws_FnWords.j1] at H
                by_cases c46 : x104_21 = true
                · subst c46
                  rw [if_pos rfl] at H
                  exact absurd H (by first | (simp; done) | ((repeat' split) <;> simp))
                ·as_aux_lemma =>
                  replace c46 := Bool.eq_false_iff.mpr c46
                  subst c46
                  rw [if_neg (show ¬ (false = true) by decide)] at H
                  have H' := Aside0.mk H
                  clear H
                  go_wp2
                  repeat (go_quiet (fail); try go_wp2)
                  go_loopg [11] kj21 (fun kq v11 w' => ∃ (x11_3 : Int), v11 = .int .i64 x11_3 ∧ Aside0 (laws_FnWords.l0 kq l0 t342 t350 x11_3 t345 t346 t347 t348 = some true) ∧ Aside0 (kq ≤ kj21) ∧ Aside0 (Kd.R (Kd.int .i64) 3 w' w.heap.size (fun k_ => some k_ ≠ (v351 : Value).ownBlock) (.slice Ao11 t342.length co11) t342) ∧ Aside0 (Kd.R (Kd.int .i64) 3 w' w.heap.size (fun k_ => some k_ ≠ ((.slice Ao11 t342.length co11) : Value).ownBlock) v351 t350) ∧ Aside0 (w'.heap[gb349]? = some (.cells #[.int .i64 t345, .int .i64 t346, .int .i64 t347, .int .i64 t348] 34 (0, 0))) ∧ Aside0 (Below w.heap.size w w'))
                  case atStart => exact ⟨(0), (by first | rfl | (simp; done) | (simp [*]; done)), H', ⟨Nat.le_refl _⟩, ⟨by (with_reducible repeat (first | apply Kd.R_alloc | apply Kd.R_drewN | apply Kd.R_drew)); exact HO_3.out⟩, ⟨by (with_reducible repeat (first | apply Kd.R_alloc | apply Kd.R_drewN | apply Kd.R_drew)); exact HO_5.out⟩, ⟨by (with_reducible repeat (first | refine blk_drewN ?_ _ | refine blk_drew ?_ | refine blk_alloc ?_ _)); exact BK349.out⟩, ⟨by repeat (first | (with_reducible first | exact HB.out | apply below_alloc | apply pw_below_drewN | apply below_drew1 | refine below_set ?_ GE349.out) | exact HB.out)⟩⟩
                  case round =>
                    clear H'
                    try clear c1
                    try clear c2
                    try clear p2
                    try clear c3
                    try clear p3
                    try clear q3
                    try clear hx3
                    try clear c4
                    try clear c7
                    try clear c15
                    try clear c15b0
                    try clear c15b1
                    try clear c15b2
                    try clear c16
                    try clear c16b0
                    try clear c16b1
                    try clear c16b2
                    try clear c20
                    try clear c21
                    try clear c23
                    try clear c23b0
                    try clear c23b1
                    try clear c24
                    try clear c24b0
                    try clear c25
                    try clear c25b0
                    try clear c26
                    try clear c26b0
                    try clear c26b1
                    try clear c27
                    try clear c27b0
                    try clear c27b1
                    try clear c27b2
                    try clear c28
                    try clear c28b0
                    try clear c28b1
                    try clear c29
                    try clear c29b0
                    try clear c34
                    try clear c34b0
                    try clear c34b1
                    try clear c34b2
                    try clear c35
                    try clear c35b0
                    try clear c35b1
                    try clear c36
                    try clear c36b0
                    try clear p36
                    try clear q36
                    try clear hx36
                    try clear c41
                    try clear c41b0
                    try clear c41b1
                    try clear c42
                    try clear c42b0
                    try clear c43
                    try clear c43b0
                    try clear c46
                    try clear hcz10_0
                    try clear hcz10_1
                    try clear hcz10_2
                    try clear hcz10_3
                    try clear hcz13_0
                    try clear hcz13_1
                    try clear hcz13_2
                    try clear hcz13_3
                    try clear hcz30_0
                    try clear hcz30_1
                    try clear hcz30_2
                    try clear hcz30_3
                    try clear hcz32_0
                    try clear hcz32_1
                    try clear hcz32_2
                    try clear hcz32_3
                    try clear hcz37_0
                    try clear hcz37_1
                    try clear hcz37_2
                    try clear hcz37_3
                    try clear hcz39_0
                    try clear hcz39_1
                    try clear hcz39_2
                    try clear hcz39_3
                    try clear hcz44_0
                    try clear hcz44_1
                    try clear hcz44_2
                    try clear hcz44_3
                    try clear hcz45_0
                    try clear hcz45_1
                    try clear hcz45_2
                    try clear hcz45_3
                    try clear hfz10_0
                    try clear hfz10_1
                    try clear hfz10_2
                    try clear hfz10_3
                    try clear hfz13_0
                    try clear hfz13_1
                    try clear hfz13_2
                    try clear hfz13_3
                    try clear hfz30_0
                    try clear hfz30_1
                    try clear hfz30_2
                    try clear hfz30_3
                    try clear hfz32_0
                    try clear hfz32_1
                    try clear hfz32_2
                    try clear hfz32_3
                    try clear hfz37_0
                    try clear hfz37_1
                    try clear hfz37_2
                    try clear hfz37_3
                    try clear hfz39_0
                    try clear hfz39_1
                    try clear hfz39_2
                    try clear hfz39_3
                    try clear hfz44_0
                    try clear hfz44_1
                    try clear hfz44_2
                    try clear hfz44_3
                    try clear hfz45_0
                    try clear hfz45_1
                    try clear hfz45_2
                    try clear hfz45_3
                    try clear hx363_0
                    try clear hx364_0
                    try clear hx365_0
                    try clear hx366_0
                    try clear p2
                    try clear p3
                    try clear p36
                    try clear p363
                    try clear p364
                    try clear p365
                    try clear p366
                    try clear q3
                    try clear q36
                    try clear q363
                    try clear q364
                    try clear q365
                    try clear q366
                    obtain ⟨x11_3, rfl, HA, HK3, HO_3, HO_5, BK349, HB⟩ := hrel
                    cases gk with
                    | zero => exact absurd HA.out (by simp [laws_FnWords.l0])
                    | succ k3 =>
                      have H := HA.out
                      clear HA
                      simp only [laws_FnWords.l0] at H
                      by_cases c47 : x11_3 < (t342.length : Int)
                      ·as_aux_lemma =>
                        rw [if_pos c47] at H
                        have c47b0 : decide (x11_3 < (t342.length : Int)) = true := decide_eq_true c47
                        clear c47
                        by_cases c48 : x11_3 = t346
                        · rw [if_pos c48] at H
                          have c48b0 : (x11_3 == t346) = true := beq_iff_eq.mpr c48
                          have c48b1 : (x11_3 != t346) = false := bne_eq_false_iff_eq.mpr c48
                          clear c48
                          have H' := Aside0.mk H
                          clear H
                          obtain ⟨hcz49_0, hcz49_1, hcz49_2, hcz49_3, hfz49_0, hfz49_1, hfz49_2, hfz49_3⟩ := cs4_ BK349.out
                          go_wp2
                          repeat (go_quiet (fail); try go_wp2)
                          go_roundg k3
                          case measure => have := HJ6.out; have := HJ21.out; have := HK3.out; omega
                          case rel => exact ⟨(wrap64 (x11_3 + 1)), (by first | rfl | (simp; done) | (simp [*]; done)), H', ⟨by have := HJ6.out; have := HJ21.out; have := HK3.out; omega⟩, ⟨by (with_reducible repeat (first | apply Kd.R_alloc | apply Kd.R_drewN | apply Kd.R_drew)); exact HO_3.out⟩, ⟨by (with_reducible repeat (first | apply Kd.R_alloc | apply Kd.R_drewN | apply Kd.R_drew)); exact HO_5.out⟩, ⟨by (with_reducible repeat (first | refine blk_drewN ?_ _ | refine blk_drew ?_ | refine blk_alloc ?_ _)); exact BK349.out⟩, ⟨by repeat (first | (with_reducible first | exact HB.out | apply below_alloc | apply pw_below_drewN | apply below_drew1 | refine below_set ?_ GE349.out) | exact HB.out)⟩⟩
                        · rw [if_neg c48] at H
                          have c48b0 : (x11_3 == t346) = false := beq_eq_false_iff_ne.mpr c48
                          have c48b1 : (x11_3 != t346) = true := bne_iff_ne.mpr c48
                          by_cases c50 : 0 ≤ x11_3
                          · rw [if_pos c50] at H
                            have c50b0 : decide (0 ≤ x11_3) = true := decide_eq_true c50
                            clear c50
                            by_cases c51 : x11_3 < (t350.length : Int)
                            · rw [if_pos c51] at H
                              have c51b0 : decide (x11_3 < (t350.length : Int)) = true := decide_eq_true c51
                              clear c51
                              by_cases c52 : (rd t350 x11_3) = (rd t342 x11_3)
                              · rw [if_pos c52] at H
                                have c52b0 : ((rd t350 x11_3) == (rd t342 x11_3)) = true := beq_iff_eq.mpr c52
                                have c52b1 : ((rd t350 x11_3) != (rd t342 x11_3)) = false := bne_eq_false_iff_eq.mpr c52
                                clear c52
                                have H' := Aside0.mk H
                                clear H
                                obtain ⟨hcz53_0, hcz53_1, hcz53_2, hcz53_3, hfz53_0, hfz53_1, hfz53_2, hfz53_3⟩ := cs4_ BK349.out
                                obtain ⟨Ao54, co54, eo54⟩ := Kd.R_slice HO_5.out
                                subst eo54
                                have p367 : 0 ≤ (x11_3 : Int) := of_decide_eq_true (by first | (with_reducible assumption) | assumption)
                                have q367 : x11_3 < (t350.length : Int) := of_decide_eq_true (by first | (with_reducible assumption) | assumption)
                                obtain ⟨ad367, e367, hx367_0⟩ := Kd.at_int (Kd.R_reads' HO_5.out).2.2 x11_3 p367 q367
                                cases e367
                                replace p367 := eq_true p367
                                replace q367 := eq_true q367
                                have p368 : 0 ≤ (x11_3 : Int) := of_decide_eq_true (by first | (with_reducible assumption) | assumption)
                                have q368 : x11_3 < (t342.length : Int) := of_decide_eq_true (by first | (with_reducible assumption) | assumption)
                                obtain ⟨ad368, e368, hx368_0⟩ := Kd.at_int (Kd.R_reads' HO_3.out).2.2 x11_3 p368 q368
                                cases e368
                                replace p368 := eq_true p368
                                replace q368 := eq_true q368
                                go_wp2
                                repeat (go_quiet (fail); try go_wp2)
                                go_roundg k3
                                case measure => have := HJ6.out; have := HJ21.out; have := HK3.out; omega
                                case rel => exact ⟨(wrap64 (x11_3 + 1)), (by first | rfl | (simp; done) | (simp [*]; done)), H', ⟨by have := HJ6.out; have := HJ21.out; have := HK3.out; omega⟩, ⟨by (with_reducible repeat (first | apply Kd.R_alloc | apply Kd.R_drewN | apply Kd.R_drew)); exact HO_3.out⟩, ⟨by (with_reducible repeat (first | apply Kd.R_alloc | apply Kd.R_drewN | apply Kd.R_drew)); exact HO_5.out⟩, ⟨by (with_reducible repeat (first | refine blk_drewN ?_ _ | refine blk_drew ?_ | refine blk_alloc ?_ _)); exact BK349.out⟩, ⟨by repeat (first | (with_reducible first | exact HB.out | apply below_alloc | apply pw_below_drewN | apply below_drew1 | refine below_set ?_ GE349.out) | exact HB.out)⟩⟩
                              · rw [if_neg c52] at H
                                have c52b0 : ((rd t350 x11_3) == (rd t342 x11_3)) = false := beq_eq_false_iff_ne.mpr c52
                                have c52b1 : ((rd t350 x11_3) != (rd t342 x11_3)) = true := bne_iff_ne.mpr c52
                                exact absurd H (by first | (simp; done) | ((repeat' split) <;> simp))
                            · rw [if_neg c51] at H
                              exact absurd H (by simp)
                          · rw [if_neg c50] at H
                            exact absurd H (by simp)
                      ·as_aux_lemma =>
                        rw [if_neg c47] at H
                        have c47b0 : decide (x11_3 < (t342.length : Int)) = false := decide_eq_false c47
                        clear c47
                        replace H := bO_ H
                        obtain ⟨⟨t369, t370, t371⟩, A55, H⟩ := H
                        replace H := bO_ H
                        obtain ⟨t378, A56, H⟩ := H
                        by_cases c57 : (t378.length : Int) = (wrap64 ((t369.length : Int) + (t370.length : Int)))
                        ·as_aux_lemma =>
                          rw [if_pos c57] at H
                          have c57b0 : ((t378.length : Int) == (wrap64 ((t369.length : Int) + (t370.length : Int)))) = true := beq_iff_eq.mpr c57
                          have c57b1 : ((t378.length : Int) != (wrap64 ((t369.length : Int) + (t370.length : Int)))) = false := bne_eq_false_iff_eq.mpr c57
                          clear c57
                          have H' := Aside0.mk H
                          clear H
                          go_wp2_with (first | (go_at_call 35; (with_reducible refine (spec_DrawMerged.calls k3 _ _ l0 t369 t370 t371 _ ?side1 ?side2 A55.out).mono ?_); (case side1 => repeat (first | exact (Kd.C_below HR0.out HB.out) | (with_reducible refine Kd.C_alloc ?_ _) | (with_reducible refine Kd.C_drewN ?_ _) | (with_reducible refine Kd.C_drew ?_))); (case side2 => exact HC0.out); rintro e w58 ⟨v372, v374, v376, rfl, ho0, ho1, ho2, hb⟩; have qB_ := bS_ (by repeat (first | (with_reducible first | exact HB.out | apply below_alloc | apply pw_below_drewN | apply below_drew1 | refine below_set ?_ GE349.out) | exact HB.out)) hb; replace HO_3 := Aside0.mk (Kd.R_below (by (with_reducible repeat (first | apply Kd.R_alloc | apply Kd.R_drewN | apply Kd.R_drew)); exact HO_3.out) hb); replace HO_5 := Aside0.mk (Kd.R_below (by (with_reducible repeat (first | apply Kd.R_alloc | apply Kd.R_drewN | apply Kd.R_drew)); exact HO_5.out) hb); have HO373 := Aside0.mk (Kd.R_lower (Kd.R_newB ho0 (g := gb349) (o := .cells #[.int .i64 t345, .int .i64 t346, .int .i64 t347, .int .i64 t348] 34 (0, 0)) (by (with_reducible repeat (first | refine blk_drewN ?_ _ | refine blk_drew ?_ | refine blk_alloc ?_ _)); exact BK349.out)) qB_.1); have HO375 := Aside0.mk (Kd.R_lower (Kd.R_newB ho1 (g := gb349) (o := .cells #[.int .i64 t345, .int .i64 t346, .int .i64 t347, .int .i64 t348] 34 (0, 0)) (by (with_reducible repeat (first | refine blk_drewN ?_ _ | refine blk_drew ?_ | refine blk_alloc ?_ _)); exact BK349.out)) qB_.1); have HO377 := Aside0.mk (Kd.R_lower ho2 qB_.1); replace BK349 := Aside0.mk (blk_below (g := gb349) (o := .cells #[.int .i64 t345, .int .i64 t346, .int .i64 t347, .int .i64 t348] 34 (0, 0)) (by (with_reducible repeat (first | refine blk_drewN ?_ _ | refine blk_drew ?_ | refine blk_alloc ?_ _)); exact BK349.out) hb); replace HB := Aside0.mk (qB_.2); clear qB_; clear hb ho0 ho1 ho2; obtain ⟨Ao59, co59, eo59⟩ := Kd.R_slice HO373.out; subst eo59; obtain ⟨Ao60, co60, eo60⟩ := Kd.R_slice HO375.out; subst eo60; obtain ⟨Ao61, co61, eo61⟩ := Kd.R_slice HO377.out; subst eo61) | (go_at_call 26; (with_reducible refine (impl_Merged.calls k3 (fun k_ => some k_ = (.slice Ao59 t369.length co59 : Value).ownBlock) _ _ t369 (fun k_ => some k_ = (.slice Ao60 t370.length co60 : Value).ownBlock) _ _ t370 _ _ t371 t378 _ ?side1 ?side2 ?side3 ?side4 A56.out).mono ?_); (case side1 => exact Kd.R_V (Kd.R_tight rfl (Kd.R_apart' (Kd.R_apart' (Kd.R_apart' (HO373.out) (Kd.R_typed HO_3.out) (by decide)) (Kd.R_typed HO_5.out) (by decide)) (Kd.R_typed HO377.out) (by decide)))); (case side2 => exact Kd.R_V (Kd.R_tight rfl (Kd.R_apart' (Kd.R_apart' (Kd.R_apart' (HO375.out) (Kd.R_typed HO_3.out) (by decide)) (Kd.R_typed HO_5.out) (by decide)) (Kd.R_typed HO377.out) (by decide)))); (case side3 => repeat (first | exact (Kd.R_reads' HO377.out).2.2 | (with_reducible refine Kd.C_alloc ?_ _) | (with_reducible refine Kd.C_drewN ?_ _) | (with_reducible refine Kd.C_drew ?_))); (case side4 => exact (Kd.R_reads' HO377.out).2.1); rintro e w62 ⟨v379, rfl, ho0, hb⟩; have qB_ := bS_ (by repeat (first | (with_reducible first | exact HB.out | apply below_alloc | apply pw_below_drewN | apply below_drew1 | refine below_set ?_ GE349.out) | exact HB.out)) hb; replace HO_3 := Aside0.mk (Kd.R_below (by (with_reducible repeat (first | apply Kd.R_alloc | apply Kd.R_drewN | apply Kd.R_drew)); exact HO_3.out) hb); replace HO_5 := Aside0.mk (Kd.R_below (by (with_reducible repeat (first | apply Kd.R_alloc | apply Kd.R_drewN | apply Kd.R_drew)); exact HO_5.out) hb); replace HO377 := Aside0.mk (Kd.R_below (by (with_reducible repeat (first | apply Kd.R_alloc | apply Kd.R_drewN | apply Kd.R_drew)); exact HO377.out) hb); have HO380 := Aside0.mk (Kd.R_lower (Kd.R_newB (Kd.R_new' (Kd.R_new' (Kd.R_mono (ok' := fun k_ => True) ho0 (fun _ hk_ => trivial)) (Kd.R_lt (by (with_reducible repeat (first | apply Kd.R_alloc | apply Kd.R_drewN | apply Kd.R_drew)); exact HO373.out))) (Kd.R_lt (by (with_reducible repeat (first | apply Kd.R_alloc | apply Kd.R_drewN | apply Kd.R_drew)); exact HO375.out))) (g := gb349) (o := .cells #[.int .i64 t345, .int .i64 t346, .int .i64 t347, .int .i64 t348] 34 (0, 0)) (by (with_reducible repeat (first | refine blk_drewN ?_ _ | refine blk_drew ?_ | refine blk_alloc ?_ _)); exact BK349.out)) qB_.1); replace HO373 := Aside0.mk (Kd.R_elder' (by (with_reducible repeat (first | apply Kd.R_alloc | apply Kd.R_drewN | apply Kd.R_drew)); exact HO373.out) (Kd.R_base ho0) hb); replace HO375 := Aside0.mk (Kd.R_elder' (by (with_reducible repeat (first | apply Kd.R_alloc | apply Kd.R_drewN | apply Kd.R_drew)); exact HO375.out) (Kd.R_base ho0) hb); replace BK349 := Aside0.mk (blk_below (g := gb349) (o := .cells #[.int .i64 t345, .int .i64 t346, .int .i64 t347, .int .i64 t348] 34 (0, 0)) (by (with_reducible repeat (first | refine blk_drewN ?_ _ | refine blk_drew ?_ | refine blk_alloc ?_ _)); exact BK349.out) hb); replace HB := Aside0.mk (qB_.2); clear qB_; clear hb ho0; obtain ⟨Ao63, co63, eo63⟩ := Kd.R_slice HO380.out; subst eo63))
                          repeat (go_quiet (first | (go_at_call 35; (with_reducible refine (spec_DrawMerged.calls k3 _ _ l0 t369 t370 t371 _ ?side1 ?side2 A55.out).mono ?_); (case side1 => repeat (first | exact (Kd.C_below HR0.out HB.out) | (with_reducible refine Kd.C_alloc ?_ _) | (with_reducible refine Kd.C_drewN ?_ _) | (with_reducible refine Kd.C_drew ?_))); (case side2 => exact HC0.out); rintro e w58 ⟨v372, v374, v376, rfl, ho0, ho1, ho2, hb⟩; have qB_ := bS_ (by repeat (first | (with_reducible first | exact HB.out | apply below_alloc | apply pw_below_drewN | apply below_drew1 | refine below_set ?_ GE349.out) | exact HB.out)) hb; replace HO_3 := Aside0.mk (Kd.R_below (by (with_reducible repeat (first | apply Kd.R_alloc | apply Kd.R_drewN | apply Kd.R_drew)); exact HO_3.out) hb); replace HO_5 := Aside0.mk (Kd.R_below (by (with_reducible repeat (first | apply Kd.R_alloc | apply Kd.R_drewN | apply Kd.R_drew)); exact HO_5.out) hb); have HO373 := Aside0.mk (Kd.R_lower (Kd.R_newB ho0 (g := gb349) (o := .cells #[.int .i64 t345, .int .i64 t346, .int .i64 t347, .int .i64 t348] 34 (0, 0)) (by (with_reducible repeat (first | refine blk_drewN ?_ _ | refine blk_drew ?_ | refine blk_alloc ?_ _)); exact BK349.out)) qB_.1); have HO375 := Aside0.mk (Kd.R_lower (Kd.R_newB ho1 (g := gb349) (o := .cells #[.int .i64 t345, .int .i64 t346, .int .i64 t347, .int .i64 t348] 34 (0, 0)) (by (with_reducible repeat (first | refine blk_drewN ?_ _ | refine blk_drew ?_ | refine blk_alloc ?_ _)); exact BK349.out)) qB_.1); have HO377 := Aside0.mk (Kd.R_lower ho2 qB_.1); replace BK349 := Aside0.mk (blk_below (g := gb349) (o := .cells #[.int .i64 t345, .int .i64 t346, .int .i64 t347, .int .i64 t348] 34 (0, 0)) (by (with_reducible repeat (first | refine blk_drewN ?_ _ | refine blk_drew ?_ | refine blk_alloc ?_ _)); exact BK349.out) hb); replace HB := Aside0.mk (qB_.2); clear qB_; clear hb ho0 ho1 ho2; obtain ⟨Ao59, co59, eo59⟩ := Kd.R_slice HO373.out; subst eo59; obtain ⟨Ao60, co60, eo60⟩ := Kd.R_slice HO375.out; subst eo60; obtain ⟨Ao61, co61, eo61⟩ := Kd.R_slice HO377.out; subst eo61) | (go_at_call 26; (with_reducible refine (impl_Merged.calls k3 (fun k_ => some k_ = (.slice Ao59 t369.length co59 : Value).ownBlock) _ _ t369 (fun k_ => some k_ = (.slice Ao60 t370.length co60 : Value).ownBlock) _ _ t370 _ _ t371 t378 _ ?side1 ?side2 ?side3 ?side4 A56.out).mono ?_); (case side1 => exact Kd.R_V (Kd.R_tight rfl (Kd.R_apart' (Kd.R_apart' (Kd.R_apart' (HO373.out) (Kd.R_typed HO_3.out) (by decide)) (Kd.R_typed HO_5.out) (by decide)) (Kd.R_typed HO377.out) (by decide)))); (case side2 => exact Kd.R_V (Kd.R_tight rfl (Kd.R_apart' (Kd.R_apart' (Kd.R_apart' (HO375.out) (Kd.R_typed HO_3.out) (by decide)) (Kd.R_typed HO_5.out) (by decide)) (Kd.R_typed HO377.out) (by decide)))); (case side3 => repeat (first | exact (Kd.R_reads' HO377.out).2.2 | (with_reducible refine Kd.C_alloc ?_ _) | (with_reducible refine Kd.C_drewN ?_ _) | (with_reducible refine Kd.C_drew ?_))); (case side4 => exact (Kd.R_reads' HO377.out).2.1); rintro e w62 ⟨v379, rfl, ho0, hb⟩; have qB_ := bS_ (by repeat (first | (with_reducible first | exact HB.out | apply below_alloc | apply pw_below_drewN | apply below_drew1 | refine below_set ?_ GE349.out) | exact HB.out)) hb; replace HO_3 := Aside0.mk (Kd.R_below (by (with_reducible repeat (first | apply Kd.R_alloc | apply Kd.R_drewN | apply Kd.R_drew)); exact HO_3.out) hb); replace HO_5 := Aside0.mk (Kd.R_below (by (with_reducible repeat (first | apply Kd.R_alloc | apply Kd.R_drewN | apply Kd.R_drew)); exact HO_5.out) hb); replace HO377 := Aside0.mk (Kd.R_below (by (with_reducible repeat (first | apply Kd.R_alloc | apply Kd.R_drewN | apply Kd.R_drew)); exact HO377.out) hb); have HO380 := Aside0.mk (Kd.R_lower (Kd.R_newB (Kd.R_new' (Kd.R_new' (Kd.R_mono (ok' := fun k_ => True) ho0 (fun _ hk_ => trivial)) (Kd.R_lt (by (with_reducible repeat (first | apply Kd.R_alloc | apply Kd.R_drewN | apply Kd.R_drew)); exact HO373.out))) (Kd.R_lt (by (with_reducible repeat (first | apply Kd.R_alloc | apply Kd.R_drewN | apply Kd.R_drew)); exact HO375.out))) (g := gb349) (o := .cells #[.int .i64 t345, .int .i64 t346, .int .i64 t347, .int .i64 t348] 34 (0, 0)) (by (with_reducible repeat (first | refine blk_drewN ?_ _ | refine blk_drew ?_ | refine blk_alloc ?_ _)); exact BK349.out)) qB_.1); replace HO373 := Aside0.mk (Kd.R_elder' (by (with_reducible repeat (first | apply Kd.R_alloc | apply Kd.R_drewN | apply Kd.R_drew)); exact HO373.out) (Kd.R_base ho0) hb); replace HO375 := Aside0.mk (Kd.R_elder' (by (with_reducible repeat (first | apply Kd.R_alloc | apply Kd.R_drewN | apply Kd.R_drew)); exact HO375.out) (Kd.R_base ho0) hb); replace BK349 := Aside0.mk (blk_below (g := gb349) (o := .cells #[.int .i64 t345, .int .i64 t346, .int .i64 t347, .int .i64 t348] 34 (0, 0)) (by (with_reducible repeat (first | refine blk_drewN ?_ _ | refine blk_drew ?_ | refine blk_alloc ?_ _)); exact BK349.out) hb); replace HB := Aside0.mk (qB_.2); clear qB_; clear hb ho0; obtain ⟨Ao63, co63, eo63⟩ := Kd.R_slice HO380.out; subst eo63)); try go_wp2_with (first | (go_at_call 35; (with_reducible refine (spec_DrawMerged.calls k3 _ _ l0 t369 t370 t371 _ ?side1 ?side2 A55.out).mono ?_); (case side1 => repeat (first | exact (Kd.C_below HR0.out HB.out) | (with_reducible refine Kd.C_alloc ?_ _) | (with_reducible refine Kd.C_drewN ?_ _) | (with_reducible refine Kd.C_drew ?_))); (case side2 => exact HC0.out); rintro e w58 ⟨v372, v374, v376, rfl, ho0, ho1, ho2, hb⟩; have qB_ := bS_ (by repeat (first | (with_reducible first | exact HB.out | apply below_alloc | apply pw_below_drewN | apply below_drew1 | refine below_set ?_ GE349.out) | exact HB.out)) hb; replace HO_3 := Aside0.mk (Kd.R_below (by (with_reducible repeat (first | apply Kd.R_alloc | apply Kd.R_drewN | apply Kd.R_drew)); exact HO_3.out) hb); replace HO_5 := Aside0.mk (Kd.R_below (by (with_reducible repeat (first | apply Kd.R_alloc | apply Kd.R_drewN | apply Kd.R_drew)); exact HO_5.out) hb); have HO373 := Aside0.mk (Kd.R_lower (Kd.R_newB ho0 (g := gb349) (o := .cells #[.int .i64 t345, .int .i64 t346, .int .i64 t347, .int .i64 t348] 34 (0, 0)) (by (with_reducible repeat (first | refine blk_drewN ?_ _ | refine blk_drew ?_ | refine blk_alloc ?_ _)); exact BK349.out)) qB_.1); have HO375 := Aside0.mk (Kd.R_lower (Kd.R_newB ho1 (g := gb349) (o := .cells #[.int .i64 t345, .int .i64 t346, .int .i64 t347, .int .i64 t348] 34 (0, 0)) (by (with_reducible repeat (first | refine blk_drewN ?_ _ | refine blk_drew ?_ | refine blk_alloc ?_ _)); exact BK349.out)) qB_.1); have HO377 := Aside0.mk (Kd.R_lower ho2 qB_.1); replace BK349 := Aside0.mk (blk_below (g := gb349) (o := .cells #[.int .i64 t345, .int .i64 t346, .int .i64 t347, .int .i64 t348] 34 (0, 0)) (by (with_reducible repeat (first | refine blk_drewN ?_ _ | refine blk_drew ?_ | refine blk_alloc ?_ _)); exact BK349.out) hb); replace HB := Aside0.mk (qB_.2); clear qB_; clear hb ho0 ho1 ho2; obtain ⟨Ao59, co59, eo59⟩ := Kd.R_slice HO373.out; subst eo59; obtain ⟨Ao60, co60, eo60⟩ := Kd.R_slice HO375.out; subst eo60; obtain ⟨Ao61, co61, eo61⟩ := Kd.R_slice HO377.out; subst eo61) | (go_at_call 26; (with_reducible refine (impl_Merged.calls k3 (fun k_ => some k_ = (.slice Ao59 t369.length co59 : Value).ownBlock) _ _ t369 (fun k_ => some k_ = (.slice Ao60 t370.length co60 : Value).ownBlock) _ _ t370 _ _ t371 t378 _ ?side1 ?side2 ?side3 ?side4 A56.out).mono ?_); (case side1 => exact Kd.R_V (Kd.R_tight rfl (Kd.R_apart' (Kd.R_apart' (Kd.R_apart' (HO373.out) (Kd.R_typed HO_3.out) (by decide)) (Kd.R_typed HO_5.out) (by decide)) (Kd.R_typed HO377.out) (by decide)))); (case side2 => exact Kd.R_V (Kd.R_tight rfl (Kd.R_apart' (Kd.R_apart' (Kd.R_apart' (HO375.out) (Kd.R_typed HO_3.out) (by decide)) (Kd.R_typed HO_5.out) (by decide)) (Kd.R_typed HO377.out) (by decide)))); (case side3 => repeat (first | exact (Kd.R_reads' HO377.out).2.2 | (with_reducible refine Kd.C_alloc ?_ _) | (with_reducible refine Kd.C_drewN ?_ _) | (with_reducible refine Kd.C_drew ?_))); (case side4 => exact (Kd.R_reads' HO377.out).2.1); rintro e w62 ⟨v379, rfl, ho0, hb⟩; have qB_ := bS_ (by repeat (first | (with_reducible first | exact HB.out | apply below_alloc | apply pw_below_drewN | apply below_drew1 | refine below_set ?_ GE349.out) | exact HB.out)) hb; replace HO_3 := Aside0.mk (Kd.R_below (by (with_reducible repeat (first | apply Kd.R_alloc | apply Kd.R_drewN | apply Kd.R_drew)); exact HO_3.out) hb); replace HO_5 := Aside0.mk (Kd.R_below (by (with_reducible repeat (first | apply Kd.R_alloc | apply Kd.R_drewN | apply Kd.R_drew)); exact HO_5.out) hb); replace HO377 := Aside0.mk (Kd.R_below (by (with_reducible repeat (first | apply Kd.R_alloc | apply Kd.R_drewN | apply Kd.R_drew)); exact HO377.out) hb); have HO380 := Aside0.mk (Kd.R_lower (Kd.R_newB (Kd.R_new' (Kd.R_new' (Kd.R_mono (ok' := fun k_ => True) ho0 (fun _ hk_ => trivial)) (Kd.R_lt (by (with_reducible repeat (first | apply Kd.R_alloc | apply Kd.R_drewN | apply Kd.R_drew)); exact HO373.out))) (Kd.R_lt (by (with_reducible repeat (first | apply Kd.R_alloc | apply Kd.R_drewN | apply Kd.R_drew)); exact HO375.out))) (g := gb349) (o := .cells #[.int .i64 t345, .int .i64 t346, .int .i64 t347, .int .i64 t348] 34 (0, 0)) (by (with_reducible repeat (first | refine blk_drewN ?_ _ | refine blk_drew ?_ | refine blk_alloc ?_ _)); exact BK349.out)) qB_.1); replace HO373 := Aside0.mk (Kd.R_elder' (by (with_reducible repeat (first | apply Kd.R_alloc | apply Kd.R_drewN | apply Kd.R_drew)); exact HO373.out) (Kd.R_base ho0) hb); replace HO375 := Aside0.mk (Kd.R_elder' (by (with_reducible repeat (first | apply Kd.R_alloc | apply Kd.R_drewN | apply Kd.R_drew)); exact HO375.out) (Kd.R_base ho0) hb); replace BK349 := Aside0.mk (blk_below (g := gb349) (o := .cells #[.int .i64 t345, .int .i64 t346, .int .i64 t347, .int .i64 t348] 34 (0, 0)) (by (with_reducible repeat (first | refine blk_drewN ?_ _ | refine blk_drew ?_ | refine blk_alloc ?_ _)); exact BK349.out) hb); replace HB := Aside0.mk (qB_.2); clear qB_; clear hb ho0; obtain ⟨Ao63, co63, eo63⟩ := Kd.R_slice HO380.out; subst eo63)))
                          go_loopg [16, 17, 18] k3 (fun kq v16 v17 v18 w' => ∃ (x16_4 : Int) (x17_4 : Int) (x18_4 : Int), v16 = .int .i64 x16_4 ∧ v17 = .int .i64 x17_4 ∧ v18 = .int .i64 x18_4 ∧ Aside0 (laws_FnWords.l1 kq t369 t370 t371 t378 x16_4 x17_4 x18_4 = some true) ∧ Aside0 (kq ≤ k3) ∧ Aside0 (Kd.R k34 34 w' w.heap.size (fun k_ => some k_ ≠ ((.slice Ao60 t370.length co60) : Value).ownBlock ∧ some k_ ≠ ((.slice Ao63 t378.length co63) : Value).ownBlock) (.slice Ao59 t369.length co59) t369) ∧ Aside0 (Kd.R k34 34 w' w.heap.size (fun k_ => some k_ ≠ ((.slice Ao59 t369.length co59) : Value).ownBlock ∧ some k_ ≠ ((.slice Ao63 t378.length co63) : Value).ownBlock) (.slice Ao60 t370.length co60) t370) ∧ Aside0 (Kd.R Kd.bool 4 w' w.heap.size (fun _ => True) (.slice Ao61 t371.length co61) t371) ∧ Aside0 (Kd.R k34 34 w' w.heap.size (fun k_ => some k_ ≠ ((.slice Ao59 t369.length co59) : Value).ownBlock ∧ some k_ ≠ ((.slice Ao60 t370.length co60) : Value).ownBlock) (.slice Ao63 t378.length co63) t378) ∧ Aside0 (Below w.heap.size w w'))
                          case atStart => exact ⟨(0), (0), (0), (by first | rfl | (simp; done) | (simp [*]; done)), (by first | rfl | (simp; done) | (simp [*]; done)), (by first | rfl | (simp; done) | (simp [*]; done)), H', ⟨Nat.le_refl _⟩, ⟨by (with_reducible repeat (first | apply Kd.R_alloc | apply Kd.R_drewN | apply Kd.R_drew)); exact Kd.R_mono HO373.out (fun _ hk => ⟨hk.1.1, hk.2⟩)⟩, ⟨by (with_reducible repeat (first | apply Kd.R_alloc | apply Kd.R_drewN | apply Kd.R_drew)); exact Kd.R_mono HO375.out (fun _ hk => ⟨hk.1.1, hk.2⟩)⟩, ⟨by (with_reducible repeat (first | apply Kd.R_alloc | apply Kd.R_drewN | apply Kd.R_drew)); exact HO377.out⟩, ⟨by (with_reducible repeat (first | apply Kd.R_alloc | apply Kd.R_drewN | apply Kd.R_drew)); exact Kd.R_mono HO380.out (fun _ hk => ⟨hk.1.1.2, hk.1.2⟩)⟩, ⟨by repeat (first | (with_reducible first | exact HB.out | apply below_alloc | apply pw_below_drewN | apply below_drew1 | refine below_set ?_ GE349.out) | exact HB.out)⟩⟩
                          case round =>
                            clear H'
                            try clear c1
                            try clear c2
                            try clear p2
                            try clear c3
                            try clear p3
                            try clear q3
                            try clear hx3
                            try clear c4
                            try clear c5
                            try clear p6
                            try clear c7
                            try clear c15
                            try clear c15b0
                            try clear c15b1
                            try clear c15b2
                            try clear c16
                            try clear c16b0
                            try clear c16b1
                            try clear c16b2
                            try clear c20
                            try clear c21
                            try clear c23
                            try clear c23b0
                            try clear c23b1
                            try clear c24
                            try clear c24b0
                            try clear c25
                            try clear c25b0
                            try clear c26
                            try clear c26b0
                            try clear c26b1
                            try clear c27
                            try clear c27b0
                            try clear c27b1
                            try clear c27b2
                            try clear c28
                            try clear c28b0
                            try clear c28b1
                            try clear c29
                            try clear c29b0
                            try clear c34
                            try clear c34b0
                            try clear c34b1
                            try clear c34b2
                            try clear c35
                            try clear c35b0
                            try clear c35b1
                            try clear c36
                            try clear c36b0
                            try clear p36
                            try clear q36
                            try clear hx36
                            try clear c41
                            try clear c41b0
                            try clear c41b1
                            try clear c42
                            try clear c42b0
                            try clear c43
                            try clear c43b0
                            try clear c46
                            try clear c47
                            try clear c47b0
                            try clear c48
                            try clear c48b0
                            try clear c48b1
                            try clear c50
                            try clear c50b0
                            try clear c51
                            try clear c51b0
                            try clear c52
                            try clear c52b0
                            try clear c52b1
                            try clear c57
                            try clear c57b0
                            try clear c57b1
                            try clear hcz10_0
                            try clear hcz10_1
                            try clear hcz10_2
                            try clear hcz10_3
                            try clear hcz13_0
                            try clear hcz13_1
                            try clear hcz13_2
                            try clear hcz13_3
                            try clear hcz30_0
                            try clear hcz30_1
                            try clear hcz30_2
                            try clear hcz30_3
                            try clear hcz32_0
                            try clear hcz32_1
                            try clear hcz32_2
                            try clear hcz32_3
                            try clear hcz37_0
                            try clear hcz37_1
                            try clear hcz37_2
                            try clear hcz37_3
                            try clear hcz39_0
                            try clear hcz39_1
                            try clear hcz39_2
                            try clear hcz39_3
                            try clear hcz44_0
                            try clear hcz44_1
                            try clear hcz44_2
                            try clear hcz44_3
                            try clear hcz45_0
                            try clear hcz45_1
                            try clear hcz45_2
                            try clear hcz45_3
                            try clear hcz49_0
                            try clear hcz49_1
                            try clear hcz49_2
                            try clear hcz49_3
                            try clear hcz53_0
                            try clear hcz53_1
                            try clear hcz53_2
                            try clear hcz53_3
                            try clear hfz10_0
                            try clear hfz10_1
                            try clear hfz10_2
                            try clear hfz10_3
                            try clear hfz13_0
                            try clear hfz13_1
                            try clear hfz13_2
                            try clear hfz13_3
                            try clear hfz30_0
                            try clear hfz30_1
                            try clear hfz30_2
                            try clear hfz30_3
                            try clear hfz32_0
                            try clear hfz32_1
                            try clear hfz32_2
                            try clear hfz32_3
                            try clear hfz37_0
                            try clear hfz37_1
                            try clear hfz37_2
                            try clear hfz37_3
                            try clear hfz39_0
                            try clear hfz39_1
                            try clear hfz39_2
                            try clear hfz39_3
                            try clear hfz44_0
                            try clear hfz44_1
                            try clear hfz44_2
                            try clear hfz44_3
                            try clear hfz45_0
                            try clear hfz45_1
                            try clear hfz45_2
                            try clear hfz45_3
                            try clear hfz49_0
                            try clear hfz49_1
                            try clear hfz49_2
                            try clear hfz49_3
                            try clear hfz53_0
                            try clear hfz53_1
                            try clear hfz53_2
                            try clear hfz53_3
                            try clear hx363_0
                            try clear hx364_0
                            try clear hx365_0
                            try clear hx366_0
                            try clear hx367_0
                            try clear hx368_0
                            try clear p2
                            try clear p3
                            try clear p36
                            try clear p363
                            try clear p364
                            try clear p365
                            try clear p366
                            try clear p367
                            try clear p368
                            try clear q3
                            try clear q36
                            try clear q363
                            try clear q364
                            try clear q365
                            try clear q366
                            try clear q367
                            try clear q368
                            obtain ⟨x16_4, x17_4, x18_4, rfl, rfl, rfl, HA, HK4, HO_12, HO_13, HO_14, HO_15, HB⟩ := hrel
                            cases gk with
                            | zero => exact absurd HA.out (by simp [laws_FnWords.l1])
                            | succ k4 =>
                              have H := HA.out
                              clear HA
                              simp only [laws_FnWords.l1] at H
                              by_cases c64 : x18_4 < (t378.length : Int)
                              ·as_aux_lemma =>
                                rw [if_pos c64] at H
                                have c64b0 : decide (x18_4 < (t378.length : Int)) = true := decide_eq_true c64
                                clear c64
                                have HC65 := Aside0.mk H
                                clear H
                                go_upto_region 25 with (fail)
                                repeat (go_quiet (fail); go_upto_region 25 with (fail))
                                go_cut [19] (fun v19 wc => ∃ (kq : Nat) (x19_64 : Bool), v19 = .bool x19_64 ∧ Aside0 (laws_FnWords.j4 kq t369 t370 t371 t378 x16_4 x17_4 x18_4 x19_64 = some true) ∧ Aside0 (kq ≤ k4) ∧ Aside0 (Kd.R k34 34 wc w.heap.size (fun k_ => some k_ ≠ ((.slice Ao60 t370.length co60) : Value).ownBlock ∧ some k_ ≠ ((.slice Ao63 t378.length co63) : Value).ownBlock) (.slice Ao59 t369.length co59) t369) ∧ Aside0 (Kd.R k34 34 wc w.heap.size (fun k_ => some k_ ≠ ((.slice Ao59 t369.length co59) : Value).ownBlock ∧ some k_ ≠ ((.slice Ao63 t378.length co63) : Value).ownBlock) (.slice Ao60 t370.length co60) t370) ∧ Aside0 (Kd.R Kd.bool 4 wc w.heap.size (fun _ => True) (.slice Ao61 t371.length co61) t371) ∧ Aside0 (Kd.R k34 34 wc w.heap.size (fun k_ => some k_ ≠ ((.slice Ao59 t369.length co59) : Value).ownBlock ∧ some k_ ≠ ((.slice Ao60 t370.length co60) : Value).ownBlock) (.slice Ao63 t378.length co63) t378) ∧ Aside0 (Below w.heap.size w wc))
                                case first =>
                                 as_aux_lemma =>
                                  have H := HC65.out
                                  clear HC65
                                  by_cases c66 : x18_4 < (t371.length : Int)
                                  ·as_aux_lemma =>
                                    rw [if_pos c66] at H
                                    have c66b0 : decide (x18_4 < (t371.length : Int)) = true := decide_eq_true c66
                                    clear c66
                                    (first | rw [c66b0] | (simp only [i64_w, i32_w]; rw [c66b0]) | skip)
                                    by_cases c67 : 0 ≤ x18_4
                                    · rw [if_pos c67] at H
                                      have c67b0 : decide (0 ≤ x18_4) = true := decide_eq_true c67
                                      clear c67
                                      obtain ⟨bq68, hbq68⟩ : ∃ b_ : Bool, b_ = (rdOf false t371 x18_4) := ⟨_, rfl⟩
                                      rw [← hbq68] at H
                                      have Nbq68 := Aside0.mk hbq68
                                      clear hbq68
                                      by_cases c69 : bq68 = true
                                      · subst c69
                                        rw [if_pos rfl] at H
                                        by_cases c70 : x17_4 < (t370.length : Int)
                                        · rw [if_pos c70] at H
                                          have c70b0 : decide (x17_4 < (t370.length : Int)) = true := decide_eq_true c70
                                          clear c70
                                          have H' := Aside0.mk H
                                          clear H
                                          have p381 : 0 ≤ (x18_4 : Int) := of_decide_eq_true (by first | (with_reducible assumption) | assumption)
                                          have q381 : x18_4 < (t371.length : Int) := of_decide_eq_true (by first | (with_reducible assumption) | assumption)
                                          obtain ⟨ad381, e381, hx381_0⟩ := Kd.at_bool (Kd.R_reads' HO_14.out).2.2 x18_4 p381 q381
                                          (try rw [← Nbq68.out] at hx381_0)
                                          cases e381
                                          replace p381 := eq_true p381
                                          replace q381 := eq_true q381
                                          go_wp2
                                          repeat (go_quiet (fail); try go_wp2)
                                          go_meet
                                          case rel => exact ⟨_, (true), (by first | rfl | (simp; done) | (simp [*]; done)), H', ⟨by have := HJ6.out; have := HJ21.out; have := HK3.out; have := HK4.out; first | omega | exact Nat.le_refl _⟩, ⟨by (with_reducible repeat (first | apply Kd.R_alloc | apply Kd.R_drewN | apply Kd.R_drew)); exact HO_12.out⟩, ⟨by (with_reducible repeat (first | apply Kd.R_alloc | apply Kd.R_drewN | apply Kd.R_drew)); exact HO_13.out⟩, ⟨by (with_reducible repeat (first | apply Kd.R_alloc | apply Kd.R_drewN | apply Kd.R_drew)); exact HO_14.out⟩, ⟨by (with_reducible repeat (first | apply Kd.R_alloc | apply Kd.R_drewN | apply Kd.R_drew)); exact HO_15.out⟩, ⟨by repeat (first | (with_reducible first | exact HB.out | apply below_alloc | apply pw_below_drewN | apply below_drew1) | exact HB.out)⟩⟩
                                        · rw [if_neg c70] at H
                                          have c70b0 : decide (x17_4 < (t370.length : Int)) = false := decide_eq_false c70
                                          clear c70
                                          have H' := Aside0.mk H
                                          clear H
                                          have p381 : 0 ≤ (x18_4 : Int) := of_decide_eq_true (by first | (with_reducible assumption) | assumption)
                                          have q381 : x18_4 < (t371.length : Int) := of_decide_eq_true (by first | (with_reducible assumption) | assumption)
                                          obtain ⟨ad381, e381, hx381_0⟩ := Kd.at_bool (Kd.R_reads' HO_14.out).2.2 x18_4 p381 q381
                                          (try rw [← Nbq68.out] at hx381_0)
                                          cases e381
                                          replace p381 := eq_true p381
                                          replace q381 := eq_true q381
                                          go_wp2
                                          repeat (go_quiet (fail); try go_wp2)
                                          go_meet
                                          case rel => exact ⟨_, ((x16_4 == (t369.length : Int))), (by first | rfl | (simp; done) | (simp [*]; done)), H', ⟨by have := HJ6.out; have := HJ21.out; have := HK3.out; have := HK4.out; first | omega | exact Nat.le_refl _⟩, ⟨by (with_reducible repeat (first | apply Kd.R_alloc | apply Kd.R_drewN | apply Kd.R_drew)); exact HO_12.out⟩, ⟨by (with_reducible repeat (first | apply Kd.R_alloc | apply Kd.R_drewN | apply Kd.R_drew)); exact HO_13.out⟩, ⟨by (with_reducible repeat (first | apply Kd.R_alloc | apply Kd.R_drewN | apply Kd.R_drew)); exact HO_14.out⟩, ⟨by (with_reducible repeat (first | apply Kd.R_alloc | apply Kd.R_drewN | apply Kd.R_drew)); exact HO_15.out⟩, ⟨by repeat (first | (with_reducible first | exact HB.out | apply below_alloc | apply pw_below_drewN | apply below_drew1) | exact HB.out)⟩⟩
                                      · replace c69 := Bool.eq_false_iff.mpr c69
                                        subst c69
                                        rw [if_neg (show ¬ (false = true) by decide)] at H
                                        have H' := Aside0.mk H
                                        clear H
                                        have p381 : 0 ≤ (x18_4 : Int) := of_decide_eq_true (by first | (with_reducible assumption) | assumption)
                                        have q381 : x18_4 < (t371.length : Int) := of_decide_eq_true (by first | (with_reducible assumption) | assumption)
                                        obtain ⟨ad381, e381, hx381_0⟩ := Kd.at_bool (Kd.R_reads' HO_14.out).2.2 x18_4 p381 q381
                                        (try rw [← Nbq68.out] at hx381_0)
                                        cases e381
                                        replace p381 := eq_true p381
                                        replace q381 := eq_true q381
                                        go_wp2
                                        repeat (go_quiet (fail); try go_wp2)
                                        go_meet
                                        case rel => exact ⟨_, ((x16_4 == (t369.length : Int))), (by first | rfl | (simp; done) | (simp [*]; done)), H', ⟨by have := HJ6.out; have := HJ21.out; have := HK3.out; have := HK4.out; first | omega | exact Nat.le_refl _⟩, ⟨by (with_reducible repeat (first | apply Kd.R_alloc | apply Kd.R_drewN | apply Kd.R_drew)); exact HO_12.out⟩, ⟨by (with_reducible repeat (first | apply Kd.R_alloc | apply Kd.R_drewN | apply Kd.R_drew)); exact HO_13.out⟩, ⟨by (with_reducible repeat (first | apply Kd.R_alloc | apply Kd.R_drewN | apply Kd.R_drew)); exact HO_14.out⟩, ⟨by (with_reducible repeat (first | apply Kd.R_alloc | apply Kd.R_drewN | apply Kd.R_drew)); exact HO_15.out⟩, ⟨by repeat (first | (with_reducible first | exact HB.out | apply below_alloc | apply pw_below_drewN | apply below_drew1) | exact HB.out)⟩⟩
                                    · rw [if_neg c67] at H
                                      exact absurd H (by simp)
                                  · rw [if_neg c66] at H
                                    have c66b0 : decide (x18_4 < (t371.length : Int)) = false := decide_eq_false c66
                                    clear c66
                                    (first | rw [c66b0] | (simp only [i64_w, i32_w]; rw [c66b0]) | skip)
                                    have H' := Aside0.mk H
                                    clear H
                                    go_wp2
                                    repeat (go_quiet (fail); try go_wp2)
                                    go_meet
                                    case rel => exact ⟨_, ((x16_4 == (t369.length : Int))), (by first | rfl | (simp; done) | (simp [*]; done)), H', ⟨by have := HJ6.out; have := HJ21.out; have := HK3.out; have := HK4.out; first | omega | exact Nat.le_refl _⟩, ⟨by (with_reducible repeat (first | apply Kd.R_alloc | apply Kd.R_drewN | apply Kd.R_drew)); exact HO_12.out⟩, ⟨by (with_reducible repeat (first | apply Kd.R_alloc | apply Kd.R_drewN | apply Kd.R_drew)); exact HO_13.out⟩, ⟨by (with_reducible repeat (first | apply Kd.R_alloc | apply Kd.R_drewN | apply Kd.R_drew)); exact HO_14.out⟩, ⟨by (with_reducible repeat (first | apply Kd.R_alloc | apply Kd.R_drewN | apply Kd.R_drew)); exact HO_15.out⟩, ⟨by repeat (first | (with_reducible first | exact HB.out | apply below_alloc | apply pw_below_drewN | apply below_drew1) | exact HB.out)⟩⟩
                                case rest =>
                                 as_aux_lemma =>
                                  clear HC65
                                  try clear c1
                                  try clear c2
                                  try clear p2
                                  try clear c3
                                  try clear p3
                                  try clear q3
                                  try clear hx3
                                  try clear c4
                                  try clear c5
                                  try clear c6
                                  try clear p6
                                  try clear q6
                                  try clear c7
                                  try clear c15
                                  try clear c15b0
                                  try clear c15b1
                                  try clear c15b2
                                  try clear c16
                                  try clear c16b0
                                  try clear c16b1
                                  try clear c16b2
                                  try clear c20
                                  try clear c21
                                  try clear c23
                                  try clear c23b0
                                  try clear c23b1
                                  try clear c24
                                  try clear c24b0
                                  try clear c25
                                  try clear c25b0
                                  try clear c26
                                  try clear c26b0
                                  try clear c26b1
                                  try clear c27
                                  try clear c27b0
                                  try clear c27b1
                                  try clear c27b2
                                  try clear c28
                                  try clear c28b0
                                  try clear c28b1
                                  try clear c29
                                  try clear c29b0
                                  try clear c34
                                  try clear c34b0
                                  try clear c34b1
                                  try clear c34b2
                                  try clear c35
                                  try clear c35b0
                                  try clear c35b1
                                  try clear c36
                                  try clear c36b0
                                  try clear p36
                                  try clear q36
                                  try clear hx36
                                  try clear p38
                                  try clear q38
                                  try clear hx38
                                  try clear c41
                                  try clear c41b0
                                  try clear c41b1
                                  try clear c42
                                  try clear c42b0
                                  try clear c43
                                  try clear c43b0
                                  try clear c46
                                  try clear c47
                                  try clear c47b0
                                  try clear c48
                                  try clear c48b0
                                  try clear c48b1
                                  try clear c50
                                  try clear c50b0
                                  try clear c51
                                  try clear c51b0
                                  try clear c52
                                  try clear c52b0
                                  try clear c52b1
                                  try clear c57
                                  try clear c57b0
                                  try clear c57b1
                                  try clear c64
                                  try clear c64b0
                                  try clear p64
                                  try clear c66
                                  try clear c66b0
                                  try clear c67
                                  try clear c67b0
                                  try clear q68
                                  try clear c69
                                  try clear c70
                                  try clear c70b0
                                  try clear hcz10_0
                                  try clear hcz10_1
                                  try clear hcz10_2
                                  try clear hcz10_3
                                  try clear hcz13_0
                                  try clear hcz13_1
                                  try clear hcz13_2
                                  try clear hcz13_3
                                  try clear hcz30_0
                                  try clear hcz30_1
                                  try clear hcz30_2
                                  try clear hcz30_3
                                  try clear hcz32_0
                                  try clear hcz32_1
                                  try clear hcz32_2
                                  try clear hcz32_3
                                  try clear hcz37_0
                                  try clear hcz37_1
                                  try clear hcz37_2
                                  try clear hcz37_3
                                  try clear hcz39_0
                                  try clear hcz39_1
                                  try clear hcz39_2
                                  try clear hcz39_3
                                  try clear hcz44_0
                                  try clear hcz44_1
                                  try clear hcz44_2
                                  try clear hcz44_3
                                  try clear hcz45_0
                                  try clear hcz45_1
                                  try clear hcz45_2
                                  try clear hcz45_3
                                  try clear hcz49_0
                                  try clear hcz49_1
                                  try clear hcz49_2
                                  try clear hcz49_3
                                  try clear hcz53_0
                                  try clear hcz53_1
                                  try clear hcz53_2
                                  try clear hcz53_3
                                  try clear hfz10_0
                                  try clear hfz10_1
                                  try clear hfz10_2
                                  try clear hfz10_3
                                  try clear hfz13_0
                                  try clear hfz13_1
                                  try clear hfz13_2
                                  try clear hfz13_3
                                  try clear hfz30_0
                                  try clear hfz30_1
                                  try clear hfz30_2
                                  try clear hfz30_3
                                  try clear hfz32_0
                                  try clear hfz32_1
                                  try clear hfz32_2
                                  try clear hfz32_3
                                  try clear hfz37_0
                                  try clear hfz37_1
                                  try clear hfz37_2
                                  try clear hfz37_3
                                  try clear hfz39_0
                                  try clear hfz39_1
                                  try clear hfz39_2
                                  try clear hfz39_3
                                  try clear hfz44_0
                                  try clear hfz44_1
                                  try clear hfz44_2
                                  try clear hfz44_3
                                  try clear hfz45_0
                                  try clear hfz45_1
                                  try clear hfz45_2
                                  try clear hfz45_3
                                  try clear hfz49_0
                                  try clear hfz49_1
                                  try clear hfz49_2
                                  try clear hfz49_3
                                  try clear hfz53_0
                                  try clear hfz53_1
                                  try clear hfz53_2
                                  try clear hfz53_3
                                  try clear hx363_0
                                  try clear hx364_0
                                  try clear hx365_0
                                  try clear hx366_0
                                  try clear hx367_0
                                  try clear hx368_0
                                  try clear hx381_0
                                  try clear p2
                                  try clear p3
                                  try clear p36
                                  try clear p363
                                  try clear p364
                                  try clear p365
                                  try clear p366
                                  try clear p367
                                  try clear p368
                                  try clear p381
                                  try clear p6
                                  try clear q3
                                  try clear q36
                                  try clear q363
                                  try clear q364
                                  try clear q365
                                  try clear q366
                                  try clear q367
                                  try clear q368
                                  try clear q381
                                  obtain ⟨kq, x19_64, rfl, HA, HJ64, HO_12, HO_13, HO_14, HO_15, HB⟩ := hcut
                                  cases kq with
                                  | zero => exact absurd HA.out (by simp [laws_FnWords.j4])
                                  | succ kj64 =>
                                    have H := HA.out
                                    clear HA
                                    simp only [laws_FnWords.j4] at H
                                    have HC71 := Aside0.mk H
                                    clear H
                                    go_upto_region 26 with (fail)
                                    repeat (go_quiet (fail); go_upto_region 26 with (fail))
                                    go_cut [198] (fun v198 wc => ∃ (kq : Nat) (x198_70 : Bool), v198 = .bool x198_70 ∧ Aside0 (laws_FnWords.j5 kq t369 t370 t371 t378 x16_4 x17_4 x18_4 x19_64 x198_70 = some true) ∧ Aside0 (kq ≤ kj64) ∧ Aside0 (Kd.R k34 34 wc w.heap.size (fun k_ => some k_ ≠ ((.slice Ao60 t370.length co60) : Value).ownBlock ∧ some k_ ≠ ((.slice Ao63 t378.length co63) : Value).ownBlock) (.slice Ao59 t369.length co59) t369) ∧ Aside0 (Kd.R k34 34 wc w.heap.size (fun k_ => some k_ ≠ ((.slice Ao59 t369.length co59) : Value).ownBlock ∧ some k_ ≠ ((.slice Ao63 t378.length co63) : Value).ownBlock) (.slice Ao60 t370.length co60) t370) ∧ Aside0 (Kd.R Kd.bool 4 wc w.heap.size (fun _ => True) (.slice Ao61 t371.length co61) t371) ∧ Aside0 (Kd.R k34 34 wc w.heap.size (fun k_ => some k_ ≠ ((.slice Ao59 t369.length co59) : Value).ownBlock ∧ some k_ ≠ ((.slice Ao60 t370.length co60) : Value).ownBlock) (.slice Ao63 t378.length co63) t378) ∧ Aside0 (Below w.heap.size w wc))
                                    case first =>
                                     as_aux_lemma =>
                                      have H := HC71.out
                                      clear HC71
                                      by_cases c72 : x19_64 = true
                                      · subst c72
                                        rw [if_pos rfl] at H
                                        by_cases c73 : 0 ≤ x18_4
                                        · rw [if_pos c73] at H
                                          have c73b0 : decide (0 ≤ x18_4) = true := decide_eq_true c73
                                          clear c73
                                          (first | rw [c73b0] | (simp only [i64_w, i32_w]; rw [c73b0]) | skip)
                                          by_cases c74 : x18_4 < (t378.length : Int)
                                          · rw [if_pos c74] at H
                                            have c74b0 : decide (x18_4 < (t378.length : Int)) = true := decide_eq_true c74
                                            clear c74
                                            by_cases c75 : 0 ≤ x17_4
                                            · rw [if_pos c75] at H
                                              have c75b0 : decide (0 ≤ x17_4) = true := decide_eq_true c75
                                              clear c75
                                              by_cases c76 : x17_4 < (t370.length : Int)
                                              · rw [if_pos c76] at H
                                                have c76b0 : decide (x17_4 < (t370.length : Int)) = true := decide_eq_true c76
                                                clear c76
                                                by_cases c77 : (!(((rd_T34 t378 x18_4).f0) == ((rd_T34 t370 x17_4).f0)) || (!(((rd_T34 t378 x18_4).f1) == ((rd_T34 t370 x17_4).f1)) || (!(((rd_T34 t378 x18_4).f2) == ((rd_T34 t370 x17_4).f2)) || (!(((rd_T34 t378 x18_4).f3) == ((rd_T34 t370 x17_4).f3)))))) = true
                                                · rw [if_pos c77] at H
                                                  have c77b0 : (!(((rd_T34 t378 x18_4).f0) == ((rd_T34 t370 x17_4).f0)) || (!(((rd_T34 t378 x18_4).f1) == ((rd_T34 t370 x17_4).f1)) || (!(((rd_T34 t378 x18_4).f2) == ((rd_T34 t370 x17_4).f2)) || (!(((rd_T34 t378 x18_4).f3) == ((rd_T34 t370 x17_4).f3)))))) = true := c77
                                                  clear c77
                                                  exact absurd H (by cases kj64 <;> first | (simp [laws_FnWords.j5]; done) | ((repeat' split) <;> simp_all [laws_FnWords.j5]))
                                                · rw [if_neg c77] at H
                                                  have c77b0 : (!(((rd_T34 t378 x18_4).f0) == ((rd_T34 t370 x17_4).f0)) || (!(((rd_T34 t378 x18_4).f1) == ((rd_T34 t370 x17_4).f1)) || (!(((rd_T34 t378 x18_4).f2) == ((rd_T34 t370 x17_4).f2)) || (!(((rd_T34 t378 x18_4).f3) == ((rd_T34 t370 x17_4).f3)))))) = false := by simpa using c77
                                                  clear c77
                                                  have H' := Aside0.mk H
                                                  clear H
                                                  have p382 : 0 ≤ (x18_4 : Int) := of_decide_eq_true (by first | (with_reducible assumption) | assumption)
                                                  have q382 : x18_4 < (t378.length : Int) := of_decide_eq_true (by first | (with_reducible assumption) | assumption)
                                                  obtain ⟨ad382, e382, hx382_0, hx382_1, hx382_2, hx382_3⟩ := at_T34 (Kd.R_reads' HO_15.out).2.2 x18_4 p382 q382
                                                  cases e382
                                                  replace p382 := eq_true p382
                                                  replace q382 := eq_true q382
                                                  have p383 : 0 ≤ (x17_4 : Int) := of_decide_eq_true (by first | (with_reducible assumption) | assumption)
                                                  have q383 : x17_4 < (t370.length : Int) := of_decide_eq_true (by first | (with_reducible assumption) | assumption)
                                                  obtain ⟨ad383, e383, hx383_0, hx383_1, hx383_2, hx383_3⟩ := at_T34 (Kd.R_reads' HO_13.out).2.2 x17_4 p383 q383
                                                  cases e383
                                                  replace p383 := eq_true p383
                                                  replace q383 := eq_true q383
                                                  go_wp2
                                                  repeat (go_quiet (fail); try go_wp2)
                                                  go_meet
                                                  case rel => exact ⟨_, (false), (by first | rfl | (simp; done) | (simp [*]; done)), H', ⟨by have := HJ6.out; have := HJ21.out; have := HK3.out; have := HK4.out; have := HJ64.out; first | omega | exact Nat.le_refl _⟩, ⟨by (with_reducible repeat (first | apply Kd.R_alloc | apply Kd.R_drewN | apply Kd.R_drew)); exact HO_12.out⟩, ⟨by (with_reducible repeat (first | apply Kd.R_alloc | apply Kd.R_drewN | apply Kd.R_drew)); exact HO_13.out⟩, ⟨by (with_reducible repeat (first | apply Kd.R_alloc | apply Kd.R_drewN | apply Kd.R_drew)); exact HO_14.out⟩, ⟨by (with_reducible repeat (first | apply Kd.R_alloc | apply Kd.R_drewN | apply Kd.R_drew)); exact HO_15.out⟩, ⟨by repeat (first | (with_reducible first | exact HB.out | apply below_alloc | apply pw_below_drewN | apply below_drew1) | exact HB.out)⟩⟩
                                              · rw [if_neg c76] at H
                                                exact absurd H (by simp)
                                            · rw [if_neg c75] at H
                                              exact absurd H (by simp)
                                          · rw [if_neg c74] at H
                                            exact absurd H (by simp)
                                        · rw [if_neg c73] at H
                                          exact absurd H (by simp)
                                      · replace c72 := Bool.eq_false_iff.mpr c72
                                        subst c72
                                        rw [if_neg (show ¬ (false = true) by decide)] at H
                                        by_cases c78 : 0 ≤ x18_4
                                        · rw [if_pos c78] at H
                                          have c78b0 : decide (0 ≤ x18_4) = true := decide_eq_true c78
                                          clear c78
                                          by_cases c79 : x18_4 < (t378.length : Int)
                                          · rw [if_pos c79] at H
                                            have c79b0 : decide (x18_4 < (t378.length : Int)) = true := decide_eq_true c79
                                            clear c79
                                            by_cases c80 : 0 ≤ x16_4
                                            · rw [if_pos c80] at H
                                              have c80b0 : decide (0 ≤ x16_4) = true := decide_eq_true c80
                                              clear c80
                                              by_cases c81 : x16_4 < (t369.length : Int)
                                              · rw [if_pos c81] at H
                                                have c81b0 : decide (x16_4 < (t369.length : Int)) = true := decide_eq_true c81
                                                clear c81
                                                by_cases c91 : ((!(((rd_T34 t378 x18_4).f0) == ((rd_T34 t369 x16_4).f0)) || (!(((rd_T34 t378 x18_4).f1) == ((rd_T34 t369 x16_4).f1)) || (!(((rd_T34 t378 x18_4).f2) == ((rd_T34 t369 x16_4).f2)) || (!(((rd_T34 t378 x18_4).f3) == ((rd_T34 t369 x16_4).f3))))))) = true
                                                · rw [c91] at H
                                                  exact absurd H (by cases kj64 <;> first | (simp [laws_FnWords.j5]; done) | ((repeat' split) <;> simp_all [laws_FnWords.j5]))
                                                · have c91b0 : ((!(((rd_T34 t378 x18_4).f0) == ((rd_T34 t369 x16_4).f0)) || (!(((rd_T34 t378 x18_4).f1) == ((rd_T34 t369 x16_4).f1)) || (!(((rd_T34 t378 x18_4).f2) == ((rd_T34 t369 x16_4).f2)) || (!(((rd_T34 t378 x18_4).f3) == ((rd_T34 t369 x16_4).f3))))))) = false := by simpa using c91
                                                  rw [c91b0] at H
                                                  clear c91
                                                  have H' := Aside0.mk H
                                                  clear H
                                                  have p384 : 0 ≤ (x18_4 : Int) := of_decide_eq_true (by first | (with_reducible assumption) | assumption)
                                                  have q384 : x18_4 < (t378.length : Int) := of_decide_eq_true (by first | (with_reducible assumption) | assumption)
                                                  obtain ⟨ad384, e384, hx384_0, hx384_1, hx384_2, hx384_3⟩ := at_T34 (Kd.R_reads' HO_15.out).2.2 x18_4 p384 q384
                                                  cases e384
                                                  replace p384 := eq_true p384
                                                  replace q384 := eq_true q384
                                                  have p385 : 0 ≤ (x16_4 : Int) := of_decide_eq_true (by first | (with_reducible assumption) | assumption)
                                                  have q385 : x16_4 < (t369.length : Int) := of_decide_eq_true (by first | (with_reducible assumption) | assumption)
                                                  obtain ⟨ad385, e385, hx385_0, hx385_1, hx385_2, hx385_3⟩ := at_T34 (Kd.R_reads' HO_12.out).2.2 x16_4 p385 q385
                                                  cases e385
                                                  replace p385 := eq_true p385
                                                  replace q385 := eq_true q385
                                                  go_wp2
                                                  repeat (go_quiet (fail); try go_wp2)
                                                  go_meet
                                                  case rel => exact ⟨_, (false), (by first | rfl | (simp; done) | (simp [*]; done)), H', ⟨by have := HJ6.out; have := HJ21.out; have := HK3.out; have := HK4.out; have := HJ64.out; first | omega | exact Nat.le_refl _⟩, ⟨by (with_reducible repeat (first | apply Kd.R_alloc | apply Kd.R_drewN | apply Kd.R_drew)); exact HO_12.out⟩, ⟨by (with_reducible repeat (first | apply Kd.R_alloc | apply Kd.R_drewN | apply Kd.R_drew)); exact HO_13.out⟩, ⟨by (with_reducible repeat (first | apply Kd.R_alloc | apply Kd.R_drewN | apply Kd.R_drew)); exact HO_14.out⟩, ⟨by (with_reducible repeat (first | apply Kd.R_alloc | apply Kd.R_drewN | apply Kd.R_drew)); exact HO_15.out⟩, ⟨by repeat (first | (with_reducible first | exact HB.out | apply below_alloc | apply pw_below_drewN | apply below_drew1) | exact HB.out)⟩⟩
                                              · rw [if_neg c81] at H
                                                exact absurd H (by simp)
                                            · rw [if_neg c80] at H
                                              exact absurd H (by simp)
                                          · rw [if_neg c79] at H
                                            exact absurd H (by simp)
                                        · rw [if_neg c78] at H
                                          exact absurd H (by simp)
                                    case rest =>
                                     as_aux_lemma =>
                                      clear HC71
                                      try clear c1
                                      try clear c2
                                      try clear p2
                                      try clear c3
                                      try clear p3
                                      try clear q3
                                      try clear hx3
                                      try clear c4
                                      try clear c5
                                      try clear c6
                                      try clear p6
                                      try clear q6
                                      try clear c7
                                      try clear c8
                                      try clear c15
                                      try clear c15b0
                                      try clear c15b1
                                      try clear c15b2
                                      try clear c16
                                      try clear c16b0
                                      try clear c16b1
                                      try clear c16b2
                                      try clear c20
                                      try clear c21
                                      try clear c23
                                      try clear c23b0
                                      try clear c23b1
                                      try clear c24
                                      try clear c24b0
                                      try clear c25
                                      try clear c25b0
                                      try clear c26
                                      try clear c26b0
                                      try clear c26b1
                                      try clear c27
                                      try clear c27b0
                                      try clear c27b1
                                      try clear c27b2
                                      try clear c28
                                      try clear c28b0
                                      try clear c28b1
                                      try clear c29
                                      try clear c29b0
                                      try clear c34
                                      try clear c34b0
                                      try clear c34b1
                                      try clear c34b2
                                      try clear c35
                                      try clear c35b0
                                      try clear c35b1
                                      try clear c36
                                      try clear c36b0
                                      try clear p36
                                      try clear q36
                                      try clear hx36
                                      try clear p38
                                      try clear q38
                                      try clear hx38
                                      try clear c41
                                      try clear c41b0
                                      try clear c41b1
                                      try clear c42
                                      try clear c42b0
                                      try clear c43
                                      try clear c43b0
                                      try clear c46
                                      try clear c47
                                      try clear c47b0
                                      try clear c48
                                      try clear c48b0
                                      try clear c48b1
                                      try clear c50
                                      try clear c50b0
                                      try clear c51
                                      try clear c51b0
                                      try clear c52
                                      try clear c52b0
                                      try clear c52b1
                                      try clear c57
                                      try clear c57b0
                                      try clear c57b1
                                      try clear c64
                                      try clear c64b0
                                      try clear p64
                                      try clear c66
                                      try clear c66b0
                                      try clear c67
                                      try clear c67b0
                                      try clear q68
                                      try clear c69
                                      try clear c70
                                      try clear c70b0
                                      try clear c72
                                      try clear c73
                                      try clear c73b0
                                      try clear c74
                                      try clear c74b0
                                      try clear c75
                                      try clear c75b0
                                      try clear c76
                                      try clear c76b0
                                      try clear c77
                                      try clear c77b0
                                      try clear c78
                                      try clear c78b0
                                      try clear c79
                                      try clear c79b0
                                      try clear c80
                                      try clear c80b0
                                      try clear c81
                                      try clear c81b0
                                      try clear hcz10_0
                                      try clear hcz10_1
                                      try clear hcz10_2
                                      try clear hcz10_3
                                      try clear hcz13_0
                                      try clear hcz13_1
                                      try clear hcz13_2
                                      try clear hcz13_3
                                      try clear hcz30_0
                                      try clear hcz30_1
                                      try clear hcz30_2
                                      try clear hcz30_3
                                      try clear hcz32_0
                                      try clear hcz32_1
                                      try clear hcz32_2
                                      try clear hcz32_3
                                      try clear hcz37_0
                                      try clear hcz37_1
                                      try clear hcz37_2
                                      try clear hcz37_3
                                      try clear hcz39_0
                                      try clear hcz39_1
                                      try clear hcz39_2
                                      try clear hcz39_3
                                      try clear hcz44_0
                                      try clear hcz44_1
                                      try clear hcz44_2
                                      try clear hcz44_3
                                      try clear hcz45_0
                                      try clear hcz45_1
                                      try clear hcz45_2
                                      try clear hcz45_3
                                      try clear hcz49_0
                                      try clear hcz49_1
                                      try clear hcz49_2
                                      try clear hcz49_3
                                      try clear hcz53_0
                                      try clear hcz53_1
                                      try clear hcz53_2
                                      try clear hcz53_3
                                      try clear hfz10_0
                                      try clear hfz10_1
                                      try clear hfz10_2
                                      try clear hfz10_3
                                      try clear hfz13_0
                                      try clear hfz13_1
                                      try clear hfz13_2
                                      try clear hfz13_3
                                      try clear hfz30_0
                                      try clear hfz30_1
                                      try clear hfz30_2
                                      try clear hfz30_3
                                      try clear hfz32_0
                                      try clear hfz32_1
                                      try clear hfz32_2
                                      try clear hfz32_3
                                      try clear hfz37_0
                                      try clear hfz37_1
                                      try clear hfz37_2
                                      try clear hfz37_3
                                      try clear hfz39_0
                                      try clear hfz39_1
                                      try clear hfz39_2
                                      try clear hfz39_3
                                      try clear hfz44_0
                                      try clear hfz44_1
                                      try clear hfz44_2
                                      try clear hfz44_3
                                      try clear hfz45_0
                                      try clear hfz45_1
                                      try clear hfz45_2
                                      try clear hfz45_3
                                      try clear hfz49_0
                                      try clear hfz49_1
                                      try clear hfz49_2
                                      try clear hfz49_3
                                      try clear hfz53_0
                                      try clear hfz53_1
                                      try clear hfz53_2
                                      try clear hfz53_3
                                      try clear hx363_0
                                      try clear hx364_0
                                      try clear hx365_0
                                      try clear hx366_0
                                      try clear hx367_0
                                      try clear hx368_0
                                      try clear hx381_0
                                      try clear hx382_0
                                      try clear hx382_1
                                      try clear hx382_2
                                      try clear hx382_3
                                      try clear hx383_0
                                      try clear hx383_1
                                      try clear hx383_2
                                      try clear hx383_3
                                      try clear hx384_0
                                      try clear hx384_1
                                      try clear hx384_2
                                      try clear hx384_3
                                      try clear hx385_0
                                      try clear hx385_1
                                      try clear hx385_2
                                      try clear hx385_3
                                      try clear p2
                                      try clear p3
                                      try clear p36
                                      try clear p363
                                      try clear p364
                                      try clear p365
                                      try clear p366
                                      try clear p367
                                      try clear p368
                                      try clear p38
                                      try clear p381
                                      try clear p382
                                      try clear p383
                                      try clear p384
                                      try clear p385
                                      try clear p6
                                      try clear p64
                                      try clear q3
                                      try clear q36
                                      try clear q363
                                      try clear q364
                                      try clear q365
                                      try clear q366
                                      try clear q367
                                      try clear q368
                                      try clear q38
                                      try clear q381
                                      try clear q382
                                      try clear q383
                                      try clear q384
                                      try clear q385
                                      try clear q6
                                      try clear q68
                                      obtain ⟨kq, x198_70, rfl, HA, HJ70, HO_12, HO_13, HO_14, HO_15, HB⟩ := hcut
                                      cases kq with
                                      | zero => exact absurd HA.out (by simp [laws_FnWords.j5])
                                      | succ kj70 =>
                                        have H := HA.out
                                        clear HA
                                        simp only [laws_FnWords.j5] at H
                                        by_cases c82 : x198_70 = true
                                        · subst c82
                                          rw [if_pos rfl] at H
                                          exact absurd H (by first | (simp; done) | ((repeat' split) <;> simp))
                                        · replace c82 := Bool.eq_false_iff.mpr c82
                                          subst c82
                                          rw [if_neg (show ¬ (false = true) by decide)] at H
                                          by_cases c83 : x19_64 = true
                                          · subst c83
                                            rw [if_pos rfl] at H
                                            have H' := Aside0.mk H
                                            clear H
                                            go_wp2
                                            repeat (go_quiet (fail); try go_wp2)
                                            go_roundg kj70
                                            case measure => have := HJ6.out; have := HJ21.out; have := HK3.out; have := HK4.out; have := HJ64.out; have := HJ70.out; omega
                                            case rel => exact ⟨(x16_4), (wrap64 (x17_4 + 1)), (wrap64 (x18_4 + 1)), (by first | rfl | (simp; done) | (simp [*]; done)), (by first | rfl | (simp; done) | (simp [*]; done)), (by first | rfl | (simp; done) | (simp [*]; done)), H', ⟨by have := HJ6.out; have := HJ21.out; have := HK3.out; have := HK4.out; have := HJ64.out; have := HJ70.out; omega⟩, ⟨by (with_reducible repeat (first | apply Kd.R_alloc | apply Kd.R_drewN | apply Kd.R_drew)); exact HO_12.out⟩, ⟨by (with_reducible repeat (first | apply Kd.R_alloc | apply Kd.R_drewN | apply Kd.R_drew)); exact HO_13.out⟩, ⟨by (with_reducible repeat (first | apply Kd.R_alloc | apply Kd.R_drewN | apply Kd.R_drew)); exact HO_14.out⟩, ⟨by (with_reducible repeat (first | apply Kd.R_alloc | apply Kd.R_drewN | apply Kd.R_drew)); exact HO_15.out⟩, ⟨by repeat (first | (with_reducible first | exact HB.out | apply below_alloc | apply pw_below_drewN | apply below_drew1) | exact HB.out)⟩⟩
                                          · replace c83 := Bool.eq_false_iff.mpr c83
                                            subst c83
                                            rw [if_neg (show ¬ (false = true) by decide)] at H
                                            have H' := Aside0.mk H
                                            clear H
                                            go_wp2
                                            repeat (go_quiet (fail); try go_wp2)
                                            go_roundg kj70
                                            case measure => have := HJ6.out; have := HJ21.out; have := HK3.out; have := HK4.out; have := HJ64.out; have := HJ70.out; omega
                                            case rel => exact ⟨(wrap64 (x16_4 + 1)), (x17_4), (wrap64 (x18_4 + 1)), (by first | rfl | (simp; done) | (simp [*]; done)), (by first | rfl | (simp; done) | (simp [*]; done)), (by first | rfl | (simp; done) | (simp [*]; done)), H', ⟨by have := HJ6.out; have := HJ21.out; have := HK3.out; have := HK4.out; have := HJ64.out; have := HJ70.out; omega⟩, ⟨by (with_reducible repeat (first | apply Kd.R_alloc | apply Kd.R_drewN | apply Kd.R_drew)); exact HO_12.out⟩, ⟨by (with_reducible repeat (first | apply Kd.R_alloc | apply Kd.R_drewN | apply Kd.R_drew)); exact HO_13.out⟩, ⟨by (with_reducible repeat (first | apply Kd.R_alloc | apply Kd.R_drewN | apply Kd.R_drew)); exact HO_14.out⟩, ⟨by (with_reducible repeat (first | apply Kd.R_alloc | apply Kd.R_drewN | apply Kd.R_drew)); exact HO_15.out⟩, ⟨by repeat (first | (with_reducible first | exact HB.out | apply below_alloc | apply pw_below_drewN | apply below_drew1) | exact HB.out)⟩⟩
                              · rw [if_neg c64] at H
                                have c64b0 : decide (x18_4 < (t378.length : Int)) = false := decide_eq_false c64
                                clear c64 H
                                go_wp2
                                repeat (go_quiet (fail); try go_wp2)
                                go_ret
                                (try rw [HT_.out])
                                (try simp only [HT_.out])
                                exact ⟨by first | rfl | (simp [errW_none, errW_some] <;> rfl) | (simp [*, errW_none, errW_some] <;> rfl), by repeat (first | (with_reducible first | exact HB.out | apply below_alloc | apply pw_below_drewN | apply below_drew1) | exact HB.out)⟩
                        · rw [if_neg c57] at H
                          have c57b0 : ((t378.length : Int) == (wrap64 ((t369.length : Int) + (t370.length : Int)))) = false := beq_eq_false_iff_ne.mpr c57
                          have c57b1 : ((t378.length : Int) != (wrap64 ((t369.length : Int) + (t370.length : Int)))) = true := bne_iff_ne.mpr c57
                          exact absurd H (by first | (simp; done) | ((repeat' split) <;> simp))
          · replace c21 := Bool.eq_false_iff.mpr c21
            subst c21
            rw [if_neg (show ¬ (false = true) by decide)] at H
            replace H := bO_ H
            obtain ⟨t362, A84, H⟩ := H
            by_cases c85 : t362 = true
            · subst c85
              rw [if_pos rfl] at H
              have HT_ := Aside0.mk (Option.some.inj H)
              clear H
              obtain ⟨Ao86, co86, eo86⟩ := Kd.R_slice HO_5.out
              subst eo86
              go_wp2_with (first | (go_at_call 34; (with_reducible refine (laws_sameInts.calls kj6 _ _ t350 _ _ t342 true _ ?side1 ?side2 ?side3 ?side4 A84.out).mono ?_); (case side1 | side3 => repeat (first | exact (Kd.R_reads' HO_5.out).2.2 | exact (Kd.R_reads' HO_3.out).2.2 | (with_reducible refine Kd.C_alloc ?_ _) | (with_reducible refine Kd.C_drewN ?_ _) | (with_reducible refine Kd.C_drew ?_))); (case side2 => exact (Kd.R_reads' HO_5.out).2.1); (case side4 => exact (Kd.R_reads' HO_3.out).2.1); rintro e w' ⟨rfl, ⟨nd, rfl⟩⟩; (try first | exact ⟨rfl, _, World.drewN_drewN _ _ _⟩ | exact ⟨rfl, _, Eq.trans (World.drewN_drewN _ _ _) (congrArg (World.drewN _) (Nat.add_assoc _ _ _))⟩)))
              repeat (go_quiet (first | (go_at_call 34; (with_reducible refine (laws_sameInts.calls kj6 _ _ t350 _ _ t342 true _ ?side1 ?side2 ?side3 ?side4 A84.out).mono ?_); (case side1 | side3 => repeat (first | exact (Kd.R_reads' HO_5.out).2.2 | exact (Kd.R_reads' HO_3.out).2.2 | (with_reducible refine Kd.C_alloc ?_ _) | (with_reducible refine Kd.C_drewN ?_ _) | (with_reducible refine Kd.C_drew ?_))); (case side2 => exact (Kd.R_reads' HO_5.out).2.1); (case side4 => exact (Kd.R_reads' HO_3.out).2.1); rintro e w' ⟨rfl, ⟨nd, rfl⟩⟩; (try first | exact ⟨rfl, _, World.drewN_drewN _ _ _⟩ | exact ⟨rfl, _, Eq.trans (World.drewN_drewN _ _ _) (congrArg (World.drewN _) (Nat.add_assoc _ _ _))⟩))); try go_wp2_with (first | (go_at_call 34; (with_reducible refine (laws_sameInts.calls kj6 _ _ t350 _ _ t342 true _ ?side1 ?side2 ?side3 ?side4 A84.out).mono ?_); (case side1 | side3 => repeat (first | exact (Kd.R_reads' HO_5.out).2.2 | exact (Kd.R_reads' HO_3.out).2.2 | (with_reducible refine Kd.C_alloc ?_ _) | (with_reducible refine Kd.C_drewN ?_ _) | (with_reducible refine Kd.C_drew ?_))); (case side2 => exact (Kd.R_reads' HO_5.out).2.1); (case side4 => exact (Kd.R_reads' HO_3.out).2.1); rintro e w' ⟨rfl, ⟨nd, rfl⟩⟩; (try first | exact ⟨rfl, _, World.drewN_drewN _ _ _⟩ | exact ⟨rfl, _, Eq.trans (World.drewN_drewN _ _ _) (congrArg (World.drewN _) (Nat.add_assoc _ _ _))⟩))))
              go_ret
              (try rw [HT_.out])
              (try simp only [HT_.out])
              exact ⟨by first | rfl | (simp [errW_none, errW_some] <;> rfl) | (simp [*, errW_none, errW_some] <;> rfl), by repeat (first | (with_reducible first | exact HB.out | apply below_alloc | apply pw_below_drewN | apply below_drew1 | refine below_set ?_ GE349.out) | exact HB.out)⟩
            · replace c85 := Bool.eq_false_iff.mpr c85
              subst c85
              rw [if_neg (show ¬ (false = true) by decide)] at H
              exact absurd H (by first | (simp; done) | ((repeat' split) <;> simp))

/-- THE ONE PURE STATEMENT of laws_FnWords. -/
def laws_FnWords.Pure : Prop := ∀ (l0 : List Int), (l0.length ≤ maxLen ∧ ∀ z0 ∈ l0, (Lit.int .u8 z0).wf = true) → ∃ k, laws_FnWords.f k l0 = some true


end Go.Proofs.Ytbhlmgljflggeaa.M
