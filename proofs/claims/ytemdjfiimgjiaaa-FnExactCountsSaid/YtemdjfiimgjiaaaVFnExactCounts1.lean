/- What the Go functions that the law FnExactCounts reaches compute, as plain Lean functions, and that their calls come to just that. Conditions: those that each theorem states. Written by the session's program. -/
import Derived.Test.YtemdjfiimgjiaaaVFnExactCountsB
import Derived.Test.YtemdjfiimgjiaaaVFnExactCounts0
namespace Go.Proofs.Ytemdjfiimgjiaaa.M
open Go.Proofs.Ytemdjfiimgjiaaa.Sq
open Go.RowKit Go.Proofs.YtemdjfiimgjiaaaW.PrintWords Go.Proofs.YtemdjfiimgjiaaaW.PrintLast Go.Proofs.YtemdjfiimgjiaaaW.PrintMore
attribute [local go_sem] max2_int min2_int max_two min_two max_three min_three max_four min_four   -- for this text's walks alone
set_option linter.unusedVariables false
set_option linter.unusedSimpArgs false

mutual
def spec_YardOk.j0 : Nat → Bool → List (S77) → List Int → List Int → List (S41) → Int → Option (Bool)
 | 0, _, _, _, _, _, _ => none
 | k + 1, x35, x149000, x149001, x149002, x149003, x149004 => if x35 = true then (some false) else (spec_YardOk.l0 k 0 x149000 x149001 x149002 x149003 x149004)
def spec_YardOk.l0 : Nat → Int → List (S77) → List Int → List Int → List (S41) → Int → Option (Bool)
 | 0, _, _, _, _, _, _ => none
 | k + 1, x3, x149000, x149001, x149002, x149003, x149004 => if x3 < (x149003.length : Int) then (if 0 ≤ x3 then ((spec_Live.f k x149000 x149001 ((rd_T41 x149003 x3).f0)).bind fun t155 => (if t155 = true then ((spec_l1In.f ((rd_T41 x149003 x3).f1) 0 x149004).bind fun t156 => (if t156 = true then (if x3 > 0 then (if 0 ≤ (wrap64 (x3 - 1)) then (if (wrap64 (x3 - 1)) < (x149003.length : Int) then (if ((rd_T41 x149003 (wrap64 (x3 - 1))).f1) > ((rd_T41 x149003 x3).f1) then (some false) else (if x3 ≤ (x149003.length : Int) then ((spec_l3Find.f k (x149003.take (x3 : Int).toNat) ((rd_T41 x149003 x3).f0)).bind fun t162 => (if t162 ≥ 0 then (some false) else (spec_YardOk.l0 k (wrap64 (x3 + 1)) x149000 x149001 x149002 x149003 x149004))) else (none))) else (none)) else (none)) else (if x3 ≤ (x149003.length : Int) then ((spec_l3Find.f k (x149003.take (x3 : Int).toNat) ((rd_T41 x149003 x3).f0)).bind fun t167 => (if t167 ≥ 0 then (some false) else (spec_YardOk.l0 k (wrap64 (x3 + 1)) x149000 x149001 x149002 x149003 x149004))) else (none))) else (some false))) else (some false))) else (none)) else (some true)
end
def spec_YardOk.f (k : Nat) (l0_0 : List (S77)) (l0_1 : List Int) (l0_2 : List Int) (l0_3 : List (S41)) (a0_4 : Int) : Option (Bool) := (spec_ArenaOk.f k l0_0 l0_1).bind fun t149 => (if t149 = true then ((spec_l1In.f a0_4 0 1000000).bind fun t150 => (if t150 = true then ((spec_l1In.f (l0_2.length : Int) 1 6).bind fun t151 => (if t151 = true then ((spec_l1All.f k l0_2 (-1) a0_4).bind fun t152 => (if t152 = true then (spec_YardOk.j0 k (decide ((l0_3.length : Int) > 24)) l0_0 l0_1 l0_2 l0_3 a0_4) else (spec_YardOk.j0 k true l0_0 l0_1 l0_2 l0_3 a0_4))) else (spec_YardOk.j0 k true l0_0 l0_1 l0_2 l0_3 a0_4))) else (spec_YardOk.j0 k true l0_0 l0_1 l0_2 l0_3 a0_4))) else (spec_YardOk.j0 k true l0_0 l0_1 l0_2 l0_3 a0_4))
def spec_YardOk.T7 : Bool × List (List Nat × List Nat) := (true, [([], []), ([0], [0]), ([], []), ([2], [2]), ([1, 3], [1, 3]), ([4], [4]), ([5, 4], [5]), ([6], [6]), ([7, 6], [6, 7]), ([6], [6]), ([9, 6], [6, 9]), ([8, 10, 6, 6], [6, 8, 10]), ([11, 6], [6, 11]), ([6, 12], [6, 12]), ([13, 11], [13]), ([14], [14]), ([15, 14], [14, 15]), ([16, 14, 14], [14, 16]), ([17], [17]), ([18, 17], [17, 18]), ([17], [17]), ([20, 17], [17, 20]), ([19, 21, 17], [17, 19, 21]), ([22, 17], [17, 22]), ([23, 17], [17, 23]), ([17], [17]), ([25, 17], [17, 25]), ([24, 26, 17], [17, 24, 26]), ([17, 27, 14], [14, 17, 27]), ([14, 28], [14, 28]), ([29, 17], [29]), ([30], [30]), ([31, 30], [30, 31]), ([30], [30]), ([32, 33, 30], [30, 32, 33]), ([30], [30]), ([35, 30], [30, 35]), ([34, 36, 30, 30], [30, 34, 36]), ([37, 30], [30, 37]), ([30, 38], [30, 38])])
def spec_YardOk.B7 : List Nat := [0, 1, 0, 4, 15, 31, 63, 127, 255, 127, 639, 2047, 4095, 8191, 16383, 32767, 65535, 131071, 262143, 524287, 262143, 1310719, 4194303, 8388607, 16777215, 262143, 33816575, 134217727, 268435455, 536870911, 1073741823, 2147483647, 4294967295, 2147483647, 17179869183, 2147483647, 36507222015, 137438953471, 274877906943, 549755813887]
theorem spec_YardOk.tab7 : rtab .any (opsOf Try.f31 7) = spec_YardOk.T7 := by kernel_rfl
theorem spec_YardOk.bits7 : waitsOk spec_YardOk.T7.2 spec_YardOk.B7 = true := by kernel_rfl
abbrev spec_YardOk.bt0_ : Array Bool := #[F_,F_,F_,F_,F_,F_,F_,F_,F_,F_,F_,F_,F_,F_,F_,F_,F_,F_,F_,F_,F_,F_,F_,F_,F_,F_,F_,F_,F_,F_,F_,F_,F_,F_,F_,F_,F_,F_,F_,F_]
abbrev spec_YardOk.bt1_ : Array Bool := #[T_,F_,F_,F_,F_,F_,F_,F_,F_,F_,F_,F_,F_,F_,F_,F_,F_,F_,F_,F_,F_,F_,F_,F_,F_,F_,F_,F_,F_,F_,F_,F_,F_,F_,F_,F_,F_,F_,F_,F_]
abbrev spec_YardOk.bt2_ : Array Bool := #[T_,F_,T_,F_,F_,F_,F_,F_,F_,F_,F_,F_,F_,F_,F_,F_,F_,F_,F_,F_,F_,F_,F_,F_,F_,F_,F_,F_,F_,F_,F_,F_,F_,F_,F_,F_,F_,F_,F_,F_]
abbrev spec_YardOk.bt3_ : Array Bool := #[T_,T_,T_,F_,F_,F_,F_,F_,F_,F_,F_,F_,F_,F_,F_,F_,F_,F_,F_,F_,F_,F_,F_,F_,F_,F_,F_,F_,F_,F_,F_,F_,F_,F_,F_,F_,F_,F_,F_,F_]
abbrev spec_YardOk.bt4_ : Array Bool := #[T_,T_,T_,T_,F_,F_,F_,F_,F_,F_,F_,F_,F_,F_,F_,F_,F_,F_,F_,F_,F_,F_,F_,F_,F_,F_,F_,F_,F_,F_,F_,F_,F_,F_,F_,F_,F_,F_,F_,F_]
abbrev spec_YardOk.bt5_ : Array Bool := #[T_,T_,T_,T_,T_,F_,F_,F_,F_,F_,F_,F_,F_,F_,F_,F_,F_,F_,F_,F_,F_,F_,F_,F_,F_,F_,F_,F_,F_,F_,F_,F_,F_,F_,F_,F_,F_,F_,F_,F_]
abbrev spec_YardOk.bt6_ : Array Bool := #[T_,T_,T_,T_,T_,T_,F_,F_,F_,F_,F_,F_,F_,F_,F_,F_,F_,F_,F_,F_,F_,F_,F_,F_,F_,F_,F_,F_,F_,F_,F_,F_,F_,F_,F_,F_,F_,F_,F_,F_]
abbrev spec_YardOk.bt7_ : Array Bool := #[T_,T_,T_,T_,T_,T_,T_,F_,F_,F_,F_,F_,F_,F_,F_,F_,F_,F_,F_,F_,F_,F_,F_,F_,F_,F_,F_,F_,F_,F_,F_,F_,F_,F_,F_,F_,F_,F_,F_,F_]
abbrev spec_YardOk.bt8_ : Array Bool := #[T_,T_,T_,T_,T_,T_,T_,T_,F_,F_,F_,F_,F_,F_,F_,F_,F_,F_,F_,F_,F_,F_,F_,F_,F_,F_,F_,F_,F_,F_,F_,F_,F_,F_,F_,F_,F_,F_,F_,F_]
abbrev spec_YardOk.bt9_ : Array Bool := #[T_,T_,T_,T_,T_,T_,T_,T_,F_,T_,F_,F_,F_,F_,F_,F_,F_,F_,F_,F_,F_,F_,F_,F_,F_,F_,F_,F_,F_,F_,F_,F_,F_,F_,F_,F_,F_,F_,F_,F_]
abbrev spec_YardOk.bt10_ : Array Bool := #[T_,T_,T_,T_,T_,T_,T_,T_,T_,T_,F_,F_,F_,F_,F_,F_,F_,F_,F_,F_,F_,F_,F_,F_,F_,F_,F_,F_,F_,F_,F_,F_,F_,F_,F_,F_,F_,F_,F_,F_]
abbrev spec_YardOk.bt11_ : Array Bool := #[T_,T_,T_,T_,T_,T_,T_,T_,T_,T_,T_,F_,F_,F_,F_,F_,F_,F_,F_,F_,F_,F_,F_,F_,F_,F_,F_,F_,F_,F_,F_,F_,F_,F_,F_,F_,F_,F_,F_,F_]
abbrev spec_YardOk.bt12_ : Array Bool := #[T_,T_,T_,T_,T_,T_,T_,T_,T_,T_,T_,T_,F_,F_,F_,F_,F_,F_,F_,F_,F_,F_,F_,F_,F_,F_,F_,F_,F_,F_,F_,F_,F_,F_,F_,F_,F_,F_,F_,F_]
abbrev spec_YardOk.bt13_ : Array Bool := #[T_,T_,T_,T_,T_,T_,T_,T_,T_,T_,T_,T_,T_,F_,F_,F_,F_,F_,F_,F_,F_,F_,F_,F_,F_,F_,F_,F_,F_,F_,F_,F_,F_,F_,F_,F_,F_,F_,F_,F_]
abbrev spec_YardOk.bt14_ : Array Bool := #[T_,T_,T_,T_,T_,T_,T_,T_,T_,T_,T_,T_,T_,T_,F_,F_,F_,F_,F_,F_,F_,F_,F_,F_,F_,F_,F_,F_,F_,F_,F_,F_,F_,F_,F_,F_,F_,F_,F_,F_]
abbrev spec_YardOk.bt15_ : Array Bool := #[T_,T_,T_,T_,T_,T_,T_,T_,T_,T_,T_,T_,T_,T_,T_,F_,F_,F_,F_,F_,F_,F_,F_,F_,F_,F_,F_,F_,F_,F_,F_,F_,F_,F_,F_,F_,F_,F_,F_,F_]
abbrev spec_YardOk.bt16_ : Array Bool := #[T_,T_,T_,T_,T_,T_,T_,T_,T_,T_,T_,T_,T_,T_,T_,T_,F_,F_,F_,F_,F_,F_,F_,F_,F_,F_,F_,F_,F_,F_,F_,F_,F_,F_,F_,F_,F_,F_,F_,F_]
abbrev spec_YardOk.bt17_ : Array Bool := #[T_,T_,T_,T_,T_,T_,T_,T_,T_,T_,T_,T_,T_,T_,T_,T_,T_,F_,F_,F_,F_,F_,F_,F_,F_,F_,F_,F_,F_,F_,F_,F_,F_,F_,F_,F_,F_,F_,F_,F_]
abbrev spec_YardOk.bt18_ : Array Bool := #[T_,T_,T_,T_,T_,T_,T_,T_,T_,T_,T_,T_,T_,T_,T_,T_,T_,T_,F_,F_,F_,F_,F_,F_,F_,F_,F_,F_,F_,F_,F_,F_,F_,F_,F_,F_,F_,F_,F_,F_]
abbrev spec_YardOk.bt19_ : Array Bool := #[T_,T_,T_,T_,T_,T_,T_,T_,T_,T_,T_,T_,T_,T_,T_,T_,T_,T_,T_,F_,F_,F_,F_,F_,F_,F_,F_,F_,F_,F_,F_,F_,F_,F_,F_,F_,F_,F_,F_,F_]
abbrev spec_YardOk.bt20_ : Array Bool := #[T_,T_,T_,T_,T_,T_,T_,T_,T_,T_,T_,T_,T_,T_,T_,T_,T_,T_,T_,F_,T_,F_,F_,F_,F_,F_,F_,F_,F_,F_,F_,F_,F_,F_,F_,F_,F_,F_,F_,F_]
abbrev spec_YardOk.bt21_ : Array Bool := #[T_,T_,T_,T_,T_,T_,T_,T_,T_,T_,T_,T_,T_,T_,T_,T_,T_,T_,T_,F_,T_,T_,F_,F_,F_,F_,F_,F_,F_,F_,F_,F_,F_,F_,F_,F_,F_,F_,F_,F_]
abbrev spec_YardOk.bt22_ : Array Bool := #[T_,T_,T_,T_,T_,T_,T_,T_,T_,T_,T_,T_,T_,T_,T_,T_,T_,T_,T_,F_,T_,T_,F_,F_,F_,T_,F_,F_,F_,F_,F_,F_,F_,F_,F_,F_,F_,F_,F_,F_]
abbrev spec_YardOk.bt23_ : Array Bool := #[T_,T_,T_,T_,T_,T_,T_,T_,T_,T_,T_,T_,T_,T_,T_,T_,T_,T_,T_,T_,T_,T_,F_,F_,F_,T_,F_,F_,F_,F_,F_,F_,F_,F_,F_,F_,F_,F_,F_,F_]
abbrev spec_YardOk.bt24_ : Array Bool := #[T_,T_,T_,T_,T_,T_,T_,T_,T_,T_,T_,T_,T_,T_,T_,T_,T_,T_,T_,T_,T_,T_,T_,F_,F_,T_,F_,F_,F_,F_,F_,F_,F_,F_,F_,F_,F_,F_,F_,F_]
abbrev spec_YardOk.bt25_ : Array Bool := #[T_,T_,T_,T_,T_,T_,T_,T_,T_,T_,T_,T_,T_,T_,T_,T_,T_,T_,T_,T_,T_,T_,T_,T_,F_,T_,F_,F_,F_,F_,F_,F_,F_,F_,F_,F_,F_,F_,F_,F_]
abbrev spec_YardOk.bt26_ : Array Bool := #[T_,T_,T_,T_,T_,T_,T_,T_,T_,T_,T_,T_,T_,T_,T_,T_,T_,T_,T_,T_,T_,T_,T_,T_,T_,T_,F_,F_,F_,F_,F_,F_,F_,F_,F_,F_,F_,F_,F_,F_]
abbrev spec_YardOk.bt27_ : Array Bool := #[T_,T_,T_,T_,T_,T_,T_,T_,T_,T_,T_,T_,T_,T_,T_,T_,T_,T_,T_,T_,T_,T_,T_,T_,T_,T_,T_,F_,F_,F_,F_,F_,F_,F_,F_,F_,F_,F_,F_,F_]
abbrev spec_YardOk.bt28_ : Array Bool := #[T_,T_,T_,T_,T_,T_,T_,T_,T_,T_,T_,T_,T_,T_,T_,T_,T_,T_,T_,T_,T_,T_,T_,T_,T_,T_,T_,T_,F_,F_,F_,F_,F_,F_,F_,F_,F_,F_,F_,F_]
abbrev spec_YardOk.bt29_ : Array Bool := #[T_,T_,T_,T_,T_,T_,T_,T_,T_,T_,T_,T_,T_,T_,T_,T_,T_,T_,T_,T_,T_,T_,T_,T_,T_,T_,T_,T_,T_,F_,F_,F_,F_,F_,F_,F_,F_,F_,F_,F_]
abbrev spec_YardOk.bt30_ : Array Bool := #[T_,T_,T_,T_,T_,T_,T_,T_,T_,T_,T_,T_,T_,T_,T_,T_,T_,T_,T_,T_,T_,T_,T_,T_,T_,T_,T_,T_,T_,T_,F_,F_,F_,F_,F_,F_,F_,F_,F_,F_]
abbrev spec_YardOk.bt31_ : Array Bool := #[T_,T_,T_,T_,T_,T_,T_,T_,T_,T_,T_,T_,T_,T_,T_,T_,T_,T_,T_,T_,T_,T_,T_,T_,T_,T_,T_,T_,T_,T_,T_,F_,F_,F_,F_,F_,F_,F_,F_,F_]
abbrev spec_YardOk.bt32_ : Array Bool := #[T_,T_,T_,T_,T_,T_,T_,T_,T_,T_,T_,T_,T_,T_,T_,T_,T_,T_,T_,T_,T_,T_,T_,T_,T_,T_,T_,T_,T_,T_,T_,T_,F_,F_,F_,F_,F_,F_,F_,F_]
abbrev spec_YardOk.bt33_ : Array Bool := #[T_,T_,T_,T_,T_,T_,T_,T_,T_,T_,T_,T_,T_,T_,T_,T_,T_,T_,T_,T_,T_,T_,T_,T_,T_,T_,T_,T_,T_,T_,T_,T_,T_,F_,F_,F_,F_,F_,F_,F_]
abbrev spec_YardOk.bt34_ : Array Bool := #[T_,T_,T_,T_,T_,T_,T_,T_,T_,T_,T_,T_,T_,T_,T_,T_,T_,T_,T_,T_,T_,T_,T_,T_,T_,T_,T_,T_,T_,T_,T_,T_,T_,T_,F_,F_,F_,F_,F_,F_]
abbrev spec_YardOk.bt35_ : Array Bool := #[T_,T_,T_,T_,T_,T_,T_,T_,T_,T_,T_,T_,T_,T_,T_,T_,T_,T_,T_,T_,T_,T_,T_,T_,T_,T_,T_,T_,T_,T_,T_,T_,T_,T_,T_,F_,F_,F_,F_,F_]
abbrev spec_YardOk.bt36_ : Array Bool := #[T_,T_,T_,T_,T_,T_,T_,T_,T_,T_,T_,T_,T_,T_,T_,T_,T_,T_,T_,T_,T_,T_,T_,T_,T_,T_,T_,T_,T_,T_,T_,T_,T_,T_,T_,T_,F_,F_,F_,F_]
abbrev spec_YardOk.bt37_ : Array Bool := #[T_,T_,T_,T_,T_,T_,T_,T_,T_,T_,T_,T_,T_,T_,T_,T_,T_,T_,T_,T_,T_,T_,T_,T_,T_,T_,T_,T_,T_,T_,T_,T_,T_,T_,T_,T_,T_,F_,F_,F_]
abbrev spec_YardOk.bt38_ : Array Bool := #[T_,T_,T_,T_,T_,T_,T_,T_,T_,T_,T_,T_,T_,T_,T_,T_,T_,T_,T_,T_,T_,T_,T_,T_,T_,T_,T_,T_,T_,T_,T_,T_,T_,T_,T_,T_,T_,T_,F_,F_]
abbrev spec_YardOk.bt39_ : Array Bool := #[T_,T_,T_,T_,T_,T_,T_,T_,T_,T_,T_,T_,T_,T_,T_,T_,T_,T_,T_,T_,T_,T_,T_,T_,T_,T_,T_,T_,T_,T_,T_,T_,T_,T_,T_,T_,T_,T_,T_,F_]
abbrev spec_YardOk.bt40_ : Array Bool := #[T_,T_,T_,T_,T_,T_,T_,T_,T_,T_,T_,T_,T_,T_,T_,T_,T_,T_,T_,T_,T_,T_,T_,T_,T_,T_,T_,T_,T_,T_,T_,T_,T_,T_,T_,T_,T_,T_,T_,T_]
abbrev spec_YardOk.bt41_ : Array Bool := #[T_,T_,T_,T_,T_,T_,T_,T_,T_,T_,T_,T_,T_,T_,T_,T_,T_,T_,T_,T_,T_,T_,T_,T_,T_,T_,T_,T_,T_,T_,T_,T_,F_,T_,F_,F_,F_,F_,F_,F_]
abbrev spec_YardOk.bt42_ : Array Bool := #[T_,T_,T_,T_,T_,T_,T_,T_,T_,T_,T_,T_,T_,T_,T_,T_,T_,T_,T_,T_,T_,T_,T_,T_,T_,T_,T_,T_,T_,T_,T_,T_,F_,T_,F_,T_,F_,F_,F_,F_]
abbrev spec_YardOk.bt43_ : Array Bool := #[T_,T_,T_,T_,T_,T_,T_,T_,T_,T_,T_,T_,T_,T_,T_,T_,T_,T_,T_,T_,T_,T_,T_,T_,T_,T_,T_,T_,T_,T_,T_,T_,T_,T_,F_,T_,F_,F_,F_,F_]
abbrev spec_YardOk.bt44_ : Array Bool := #[T_,T_,T_,T_,T_,T_,T_,T_,T_,T_,T_,T_,T_,T_,T_,T_,T_,T_,T_,T_,F_,F_,F_,F_,F_,F_,F_,F_,F_,F_,F_,F_,F_,F_,F_,F_,F_,F_,F_,F_]
abbrev spec_YardOk.bt45_ : Array Bool := #[T_,T_,T_,T_,T_,T_,T_,T_,T_,T_,T_,T_,T_,T_,T_,T_,T_,T_,T_,T_,T_,F_,F_,F_,F_,F_,F_,F_,F_,F_,F_,F_,F_,F_,F_,F_,F_,F_,F_,F_]
abbrev spec_YardOk.bt46_ : Array Bool := #[T_,T_,T_,T_,T_,T_,T_,T_,T_,T_,T_,T_,T_,T_,T_,T_,T_,T_,T_,T_,T_,T_,F_,F_,F_,F_,F_,F_,F_,F_,F_,F_,F_,F_,F_,F_,F_,F_,F_,F_]
abbrev spec_YardOk.bt47_ : Array Bool := #[T_,T_,T_,T_,T_,T_,T_,T_,T_,T_,T_,T_,T_,T_,T_,T_,T_,T_,T_,T_,T_,T_,T_,F_,F_,F_,F_,F_,F_,F_,F_,F_,F_,F_,F_,F_,F_,F_,F_,F_]
abbrev spec_YardOk.bt48_ : Array Bool := #[T_,T_,T_,T_,T_,T_,T_,T_,T_,T_,T_,T_,T_,T_,T_,T_,T_,T_,T_,T_,T_,T_,T_,T_,F_,F_,F_,F_,F_,F_,F_,F_,F_,F_,F_,F_,F_,F_,F_,F_]
abbrev spec_YardOk.bt49_ : Array Bool := #[T_,T_,T_,T_,T_,T_,T_,T_,T_,T_,T_,T_,T_,T_,T_,T_,T_,T_,T_,T_,T_,T_,T_,T_,T_,F_,F_,F_,F_,F_,F_,F_,F_,F_,F_,F_,F_,F_,F_,F_]
abbrev spec_YardOk.bt50_ : Array Bool := #[T_,T_,T_,T_,T_,T_,T_,T_,T_,F_,F_,F_,F_,F_,F_,F_,F_,F_,F_,F_,F_,F_,F_,F_,F_,F_,F_,F_,F_,F_,F_,F_,F_,F_,F_,F_,F_,F_,F_,F_]
set_option maxHeartbeats 8000000 in
set_option maxRecDepth 100000 in
theorem spec_YardOk.calls (k : Nat) (A0_0 : Option Addr) (c0_0 : Nat) (l0_0 : List (S77)) (A0_1 : Option Addr) (c0_1 : Nat) (l0_1 : List Int) (A0_2 : Option Addr) (c0_2 : Nat) (l0_2 : List Int) (A0_3 : Option Addr) (c0_3 : Nat) (l0_3 : List (S41)) (a0_4 : Int) (r : Bool) (w : World) (hr0_0 : Kd.C k77 w A0_0 l0_0.length l0_0) (hc0_0 : l0_0.length ≤ c0_0) (hr0_1 : Kd.C (Kd.int .i64) w A0_1 l0_1.length l0_1) (hc0_1 : l0_1.length ≤ c0_1) (hr0_2 : Kd.C (Kd.int .i64) w A0_2 l0_2.length l0_2) (hc0_2 : l0_2.length ≤ c0_2) (hr0_3 : Kd.C k41 w A0_3 l0_3.length l0_3) (hc0_3 : l0_3.length ≤ c0_3) (h : spec_YardOk.f k l0_0 l0_1 l0_2 l0_3 a0_4 = some r) :
  Calls Try.prog 31 #[.agg #[.slice A0_0 l0_0.length c0_0, .slice A0_1 l0_1.length c0_1, .slice A0_2 l0_2.length c0_2, .slice A0_3 l0_3.length c0_3, .int .i64 a0_4]] w fun e w' => e = .returned (.bool r) ∧ Below w.heap.size w w' := by
 have hu30 := Try.underlying30
 have hu27 := Try.underlying27
 have hu41 := Try.underlying41
 have HR0_0 := Aside0.mk hr0_0
 have HC0_0 := Aside0.mk hc0_0
 clear hr0_0 hc0_0
 have HR0_1 := Aside0.mk hr0_1
 have HC0_1 := Aside0.mk hc0_1
 clear hr0_1 hc0_1
 have HR0_2 := Aside0.mk hr0_2
 have HC0_2 := Aside0.mk hc0_2
 clear hr0_2 hc0_2
 have HR0_3 := Aside0.mk hr0_3
 have HC0_3 := Aside0.mk hc0_3
 clear hr0_3 hc0_3
 have HB := Aside0.mk (Below.refl w.heap.size w)
 have H : ((spec_ArenaOk.f k l0_0 l0_1).bind fun t149 => (if t149 = true then ((spec_l1In.f a0_4 0 1000000).bind fun t150 => (if t150 = true then ((spec_l1In.f (l0_2.length : Int) 1 6).bind fun t151 => (if t151 = true then ((spec_l1All.f k l0_2 (-1) a0_4).bind fun t152 => (if t152 = true then (spec_YardOk.j0 k (decide ((l0_3.length : Int) > 24)) l0_0 l0_1 l0_2 l0_3 a0_4) else (spec_YardOk.j0 k true l0_0 l0_1 l0_2 l0_3 a0_4))) else (spec_YardOk.j0 k true l0_0 l0_1 l0_2 l0_3 a0_4))) else (spec_YardOk.j0 k true l0_0 l0_1 l0_2 l0_3 a0_4))) else (spec_YardOk.j0 k true l0_0 l0_1 l0_2 l0_3 a0_4))) = some r := h
 clear h
 have HC2 := Aside0.mk H
 clear H
 go_enter Try.func31, Try.ntmps31
 go_upto_region 1 with (first | ((with_reducible refine gate_dst (N := 1) rfl ?_); (try (refine gate_guard (by rfl) ?_; dsimp only)); refine box_event ?hg (N := 1) ?hd (cs := #[.slice A0_0 l0_0.length c0_0, .slice A0_1 l0_1.length c0_1, .slice A0_2 l0_2.length c0_2, .slice A0_3 l0_3.length c0_3, .int .i64 a0_4]) (t := 30) ?hr ?_; (case hd => rfl); (case hg => rfl); (case hr => first | (go_simp; done) | (go_simp; rfl)); intro gb148 hg w3 hbox hb; have n0_ := Aside0.mk (below_step (by repeat (first | (with_reducible first | exact HB.out | apply below_alloc | apply pw_below_drewN | apply below_drew1) | exact HB.out)) hb); have n1_ := Aside0.mk (hbox); have n2_ := Aside0.mk ((by rw [hg]; exact (below_size (by repeat (first | (with_reducible first | exact HB.out | apply below_alloc | apply pw_below_drewN | apply below_drew1) | exact HB.out))) : w.heap.size ≤ gb148)); have n3_ := n2_; replace HB := n0_; have BK148 := n1_; have GW148 := n2_; have GE148 := n3_; clear n0_ n1_ n2_ n3_; clear hb hbox hg))
 (try simp only [Act.put, sx_, sy_, sz_])
 go_cut [35] (fun v35 wc => ∃ (kq : Nat) (x35_1 : Bool), v35 = .bool x35_1 ∧ Aside0 (spec_YardOk.j0 kq x35_1 l0_0 l0_1 l0_2 l0_3 a0_4 = some r) ∧ Aside0 (kq ≤ k) ∧ Aside0 (wc.heap[gb148]? = some (.cells #[(.slice A0_0 l0_0.length c0_0), (.slice A0_1 l0_1.length c0_1), (.slice A0_2 l0_2.length c0_2), (.slice A0_3 l0_3.length c0_3), .int .i64 a0_4] 30 (0, 0))) ∧ Aside0 (Below w.heap.size w wc))
 case first =>
  have H := HC2.out
  clear HC2
  replace H := Option.bind_eq_some_iff.mp H
  obtain ⟨t149, A40, H⟩ := H
  replace H : (if t149 = true then ((spec_l1In.f a0_4 0 1000000).bind fun t150 => (if t150 = true then ((spec_l1In.f (l0_2.length : Int) 1 6).bind fun t151 => (if t151 = true then ((spec_l1All.f k l0_2 (-1) a0_4).bind fun t152 => (if t152 = true then (spec_YardOk.j0 k (decide ((l0_3.length : Int) > 24)) l0_0 l0_1 l0_2 l0_3 a0_4) else (spec_YardOk.j0 k true l0_0 l0_1 l0_2 l0_3 a0_4))) else (spec_YardOk.j0 k true l0_0 l0_1 l0_2 l0_3 a0_4))) else (spec_YardOk.j0 k true l0_0 l0_1 l0_2 l0_3 a0_4))) else (spec_YardOk.j0 k true l0_0 l0_1 l0_2 l0_3 a0_4)) = some r := H
  have A4 := Aside0.mk A40
  clear A40
  by_cases c5 : t149 = true
  ·subst c5
   have H1 : ((spec_l1In.f a0_4 0 1000000).bind fun t150 => (if t150 = true then ((spec_l1In.f (l0_2.length : Int) 1 6).bind fun t151 => (if t151 = true then ((spec_l1All.f k l0_2 (-1) a0_4).bind fun t152 => (if t152 = true then (spec_YardOk.j0 k (decide ((l0_3.length : Int) > 24)) l0_0 l0_1 l0_2 l0_3 a0_4) else (spec_YardOk.j0 k true l0_0 l0_1 l0_2 l0_3 a0_4))) else (spec_YardOk.j0 k true l0_0 l0_1 l0_2 l0_3 a0_4))) else (spec_YardOk.j0 k true l0_0 l0_1 l0_2 l0_3 a0_4))) = some r := by rw [if_pos rfl] at H; exact H
   clear H
   have H := H1
   clear H1
   replace H := Option.bind_eq_some_iff.mp H
   obtain ⟨t150, A60, H⟩ := H
   replace H : (if t150 = true then ((spec_l1In.f (l0_2.length : Int) 1 6).bind fun t151 => (if t151 = true then ((spec_l1All.f k l0_2 (-1) a0_4).bind fun t152 => (if t152 = true then (spec_YardOk.j0 k (decide ((l0_3.length : Int) > 24)) l0_0 l0_1 l0_2 l0_3 a0_4) else (spec_YardOk.j0 k true l0_0 l0_1 l0_2 l0_3 a0_4))) else (spec_YardOk.j0 k true l0_0 l0_1 l0_2 l0_3 a0_4))) else (spec_YardOk.j0 k true l0_0 l0_1 l0_2 l0_3 a0_4)) = some r := H
   have A6 := Aside0.mk A60
   clear A60
   by_cases c7 : t150 = true
   ·subst c7
    have H1 : ((spec_l1In.f (l0_2.length : Int) 1 6).bind fun t151 => (if t151 = true then ((spec_l1All.f k l0_2 (-1) a0_4).bind fun t152 => (if t152 = true then (spec_YardOk.j0 k (decide ((l0_3.length : Int) > 24)) l0_0 l0_1 l0_2 l0_3 a0_4) else (spec_YardOk.j0 k true l0_0 l0_1 l0_2 l0_3 a0_4))) else (spec_YardOk.j0 k true l0_0 l0_1 l0_2 l0_3 a0_4))) = some r := by rw [if_pos rfl] at H; exact H
    clear H
    have H := H1
    clear H1
    replace H := Option.bind_eq_some_iff.mp H
    obtain ⟨t151, A80, H⟩ := H
    replace H : (if t151 = true then ((spec_l1All.f k l0_2 (-1) a0_4).bind fun t152 => (if t152 = true then (spec_YardOk.j0 k (decide ((l0_3.length : Int) > 24)) l0_0 l0_1 l0_2 l0_3 a0_4) else (spec_YardOk.j0 k true l0_0 l0_1 l0_2 l0_3 a0_4))) else (spec_YardOk.j0 k true l0_0 l0_1 l0_2 l0_3 a0_4)) = some r := H
    have A8 := Aside0.mk A80
    clear A80
    by_cases c9 : t151 = true
    ·subst c9
     have H1 : ((spec_l1All.f k l0_2 (-1) a0_4).bind fun t152 => (if t152 = true then (spec_YardOk.j0 k (decide ((l0_3.length : Int) > 24)) l0_0 l0_1 l0_2 l0_3 a0_4) else (spec_YardOk.j0 k true l0_0 l0_1 l0_2 l0_3 a0_4))) = some r := by rw [if_pos rfl] at H; exact H
     clear H
     have H := H1
     clear H1
     replace H := Option.bind_eq_some_iff.mp H
     obtain ⟨t152, A100, H⟩ := H
     replace H : (if t152 = true then (spec_YardOk.j0 k (decide ((l0_3.length : Int) > 24)) l0_0 l0_1 l0_2 l0_3 a0_4) else (spec_YardOk.j0 k true l0_0 l0_1 l0_2 l0_3 a0_4)) = some r := H
     have A10 := Aside0.mk A100
     clear A100
     by_cases c11 : t152 = true
     ·subst c11
      have H1 : (spec_YardOk.j0 k (decide ((l0_3.length : Int) > 24)) l0_0 l0_1 l0_2 l0_3 a0_4) = some r := by rw [if_pos rfl] at H; exact H
      clear H
      have H := H1
      clear H1
      have H' := Aside0.mk H
      clear H
      obtain ⟨hcz12_0, hcz12_1, hcz12_2, hcz12_3, hcz12_4, hfz12_0, hfz12_1, hfz12_2, hfz12_3, hfz12_4⟩ := cs5_ BK148.out
      go_wp2_with (first | ((with_reducible refine gate_callee (f := 68) rfl ?_); refine goesL_ (some 7) rfl rfl Try.func68 (by kernel_rfl) rfl #[.agg #[.slice A0_0 l0_0.length c0_0, .slice A0_1 l0_1.length c0_1]] rfl (by (try simp only [List.map_toArray, List.map_cons, List.map_nil]); first | done | rfl | (simp only [List.length_drop, List.length_take]; rfl)) ?_; (with_reducible refine (spec_ArenaOk.calls k _ _ l0_0 _ _ l0_1 true _ ?side1 ?side2 ?side3 ?side4 A4.out).mono ?_); (case side1 => exact (Kd.C_below HR0_0.out HB.out)); (case side2 => exact HC0_0.out); (case side3 => exact (Kd.C_below HR0_1.out HB.out)); (case side4 => exact HC0_1.out); rintro e w13 ⟨rfl, hb⟩; refine ⟨_, rfl, ?_⟩; have n0_ := Aside0.mk (blk_below (g := gb148) (o := .cells #[.slice A0_0 l0_0.length c0_0, .slice A0_1 l0_1.length c0_1, .slice A0_2 l0_2.length c0_2, .slice A0_3 l0_3.length c0_3, .int .i64 a0_4] 30 (0, 0)) BK148.out hb); have n1_ := Aside0.mk (below_step (by repeat (first | (with_reducible first | exact HB.out | apply below_alloc | apply pw_below_drewN | apply below_drew1 | refine below_set ?_ GE148.out) | exact HB.out)) hb); replace BK148 := n0_; replace HB := n1_; clear n0_ n1_; (try clear hb); (try clear hb2); (try clear hk); (try clear hi); obtain ⟨hcz14_0, hcz14_1, hcz14_2, hcz14_3, hcz14_4, hfz14_0, hfz14_1, hfz14_2, hfz14_3, hfz14_4⟩ := cs5_ BK148.out) | (go_at_call 55; (with_reducible refine (spec_l1In.calls a0_4 0 1000000 true _ A6.out).mono ?_); rintro e w' ⟨rfl, ⟨nd, rfl⟩⟩) | (go_at_call 55; (with_reducible refine (spec_l1In.calls (l0_2.length : Int) 1 6 true _ A8.out).mono ?_); rintro e w' ⟨rfl, ⟨nd, rfl⟩⟩) | (go_at_call 69; (with_reducible refine (spec_l1All.calls k _ _ l0_2 (-1) a0_4 true _ ?side1 ?side2 A10.out).mono ?_); (case side1 => repeat (first | exact (Kd.C_below HR0_2.out (by repeat (first | (with_reducible first | exact HB.out | apply below_alloc | apply pw_below_drewN | apply below_drew1 | refine below_set ?_ GE148.out) | exact HB.out))) | (with_reducible refine Kd.C_alloc ?_ _) | (with_reducible refine Kd.C_drewN ?_ _) | (with_reducible refine Kd.C_drew ?_))); (case side2 => exact HC0_2.out); rintro e w' ⟨rfl, ⟨nd, rfl⟩⟩))
      go_meet
      case rel => exact ⟨_, (decide ((l0_3.length : Int) > 24)), (by first | rfl | (simp; done) | (simp [*]; done)), H', ⟨by first | omega | exact Nat.le_refl _⟩, ⟨BK148.out⟩, ⟨by repeat (first | (with_reducible first | exact HB.out | apply below_alloc | apply pw_below_drewN | apply below_drew1 | refine below_set ?_ GE148.out) | exact HB.out)⟩⟩
     ·replace c11 := Bool.eq_false_iff.mpr c11
      subst c11
      have H1 : (spec_YardOk.j0 k true l0_0 l0_1 l0_2 l0_3 a0_4) = some r := by rw [if_neg (show ¬ (false = true) by decide)] at H; exact H
      clear H
      have H := H1
      clear H1
      have H' := Aside0.mk H
      clear H
      obtain ⟨hcz15_0, hcz15_1, hcz15_2, hcz15_3, hcz15_4, hfz15_0, hfz15_1, hfz15_2, hfz15_3, hfz15_4⟩ := cs5_ BK148.out
      go_wp2_with (first | ((with_reducible refine gate_callee (f := 68) rfl ?_); refine goesL_ (some 7) rfl rfl Try.func68 (by kernel_rfl) rfl #[.agg #[.slice A0_0 l0_0.length c0_0, .slice A0_1 l0_1.length c0_1]] rfl (by (try simp only [List.map_toArray, List.map_cons, List.map_nil]); first | done | rfl | (simp only [List.length_drop, List.length_take]; rfl)) ?_; (with_reducible refine (spec_ArenaOk.calls k _ _ l0_0 _ _ l0_1 true _ ?side1 ?side2 ?side3 ?side4 A4.out).mono ?_); (case side1 => exact (Kd.C_below HR0_0.out HB.out)); (case side2 => exact HC0_0.out); (case side3 => exact (Kd.C_below HR0_1.out HB.out)); (case side4 => exact HC0_1.out); rintro e w16 ⟨rfl, hb⟩; refine ⟨_, rfl, ?_⟩; have n0_ := Aside0.mk (blk_below (g := gb148) (o := .cells #[.slice A0_0 l0_0.length c0_0, .slice A0_1 l0_1.length c0_1, .slice A0_2 l0_2.length c0_2, .slice A0_3 l0_3.length c0_3, .int .i64 a0_4] 30 (0, 0)) BK148.out hb); have n1_ := Aside0.mk (below_step (by repeat (first | (with_reducible first | exact HB.out | apply below_alloc | apply pw_below_drewN | apply below_drew1 | refine below_set ?_ GE148.out) | exact HB.out)) hb); replace BK148 := n0_; replace HB := n1_; clear n0_ n1_; (try clear hb); (try clear hb2); (try clear hk); (try clear hi); obtain ⟨hcz17_0, hcz17_1, hcz17_2, hcz17_3, hcz17_4, hfz17_0, hfz17_1, hfz17_2, hfz17_3, hfz17_4⟩ := cs5_ BK148.out) | (go_at_call 55; (with_reducible refine (spec_l1In.calls a0_4 0 1000000 true _ A6.out).mono ?_); rintro e w' ⟨rfl, ⟨nd, rfl⟩⟩) | (go_at_call 55; (with_reducible refine (spec_l1In.calls (l0_2.length : Int) 1 6 true _ A8.out).mono ?_); rintro e w' ⟨rfl, ⟨nd, rfl⟩⟩) | (go_at_call 69; (with_reducible refine (spec_l1All.calls k _ _ l0_2 (-1) a0_4 false _ ?side1 ?side2 A10.out).mono ?_); (case side1 => repeat (first | exact (Kd.C_below HR0_2.out (by repeat (first | (with_reducible first | exact HB.out | apply below_alloc | apply pw_below_drewN | apply below_drew1 | refine below_set ?_ GE148.out) | exact HB.out))) | (with_reducible refine Kd.C_alloc ?_ _) | (with_reducible refine Kd.C_drewN ?_ _) | (with_reducible refine Kd.C_drew ?_))); (case side2 => exact HC0_2.out); rintro e w' ⟨rfl, ⟨nd, rfl⟩⟩))
      go_meet
      case rel => exact ⟨_, (true), (by first | rfl | (simp; done) | (simp [*]; done)), H', ⟨by first | omega | exact Nat.le_refl _⟩, ⟨BK148.out⟩, ⟨by repeat (first | (with_reducible first | exact HB.out | apply below_alloc | apply pw_below_drewN | apply below_drew1 | refine below_set ?_ GE148.out) | exact HB.out)⟩⟩
    ·replace c9 := Bool.eq_false_iff.mpr c9
     subst c9
     have H1 : (spec_YardOk.j0 k true l0_0 l0_1 l0_2 l0_3 a0_4) = some r := by rw [if_neg (show ¬ (false = true) by decide)] at H; exact H
     clear H
     have H := H1
     clear H1
     have H' := Aside0.mk H
     clear H
     obtain ⟨hcz18_0, hcz18_1, hcz18_2, hcz18_3, hcz18_4, hfz18_0, hfz18_1, hfz18_2, hfz18_3, hfz18_4⟩ := cs5_ BK148.out
     go_wp2_with (first | ((with_reducible refine gate_callee (f := 68) rfl ?_); refine goesL_ (some 7) rfl rfl Try.func68 (by kernel_rfl) rfl #[.agg #[.slice A0_0 l0_0.length c0_0, .slice A0_1 l0_1.length c0_1]] rfl (by (try simp only [List.map_toArray, List.map_cons, List.map_nil]); first | done | rfl | (simp only [List.length_drop, List.length_take]; rfl)) ?_; (with_reducible refine (spec_ArenaOk.calls k _ _ l0_0 _ _ l0_1 true _ ?side1 ?side2 ?side3 ?side4 A4.out).mono ?_); (case side1 => exact (Kd.C_below HR0_0.out HB.out)); (case side2 => exact HC0_0.out); (case side3 => exact (Kd.C_below HR0_1.out HB.out)); (case side4 => exact HC0_1.out); rintro e w19 ⟨rfl, hb⟩; refine ⟨_, rfl, ?_⟩; have n0_ := Aside0.mk (blk_below (g := gb148) (o := .cells #[.slice A0_0 l0_0.length c0_0, .slice A0_1 l0_1.length c0_1, .slice A0_2 l0_2.length c0_2, .slice A0_3 l0_3.length c0_3, .int .i64 a0_4] 30 (0, 0)) BK148.out hb); have n1_ := Aside0.mk (below_step (by repeat (first | (with_reducible first | exact HB.out | apply below_alloc | apply pw_below_drewN | apply below_drew1 | refine below_set ?_ GE148.out) | exact HB.out)) hb); replace BK148 := n0_; replace HB := n1_; clear n0_ n1_; (try clear hb); (try clear hb2); (try clear hk); (try clear hi); obtain ⟨hcz20_0, hcz20_1, hcz20_2, hcz20_3, hcz20_4, hfz20_0, hfz20_1, hfz20_2, hfz20_3, hfz20_4⟩ := cs5_ BK148.out) | (go_at_call 55; (with_reducible refine (spec_l1In.calls a0_4 0 1000000 true _ A6.out).mono ?_); rintro e w' ⟨rfl, ⟨nd, rfl⟩⟩) | (go_at_call 55; (with_reducible refine (spec_l1In.calls (l0_2.length : Int) 1 6 false _ A8.out).mono ?_); rintro e w' ⟨rfl, ⟨nd, rfl⟩⟩))
     go_meet
     case rel => exact ⟨_, (true), (by first | rfl | (simp; done) | (simp [*]; done)), H', ⟨by first | omega | exact Nat.le_refl _⟩, ⟨BK148.out⟩, ⟨by repeat (first | (with_reducible first | exact HB.out | apply below_alloc | apply pw_below_drewN | apply below_drew1 | refine below_set ?_ GE148.out) | exact HB.out)⟩⟩
   ·replace c7 := Bool.eq_false_iff.mpr c7
    subst c7
    have H1 : (spec_YardOk.j0 k true l0_0 l0_1 l0_2 l0_3 a0_4) = some r := by rw [if_neg (show ¬ (false = true) by decide)] at H; exact H
    clear H
    have H := H1
    clear H1
    have H' := Aside0.mk H
    clear H
    obtain ⟨hcz21_0, hcz21_1, hcz21_2, hcz21_3, hcz21_4, hfz21_0, hfz21_1, hfz21_2, hfz21_3, hfz21_4⟩ := cs5_ BK148.out
    go_wp2_with (first | ((with_reducible refine gate_callee (f := 68) rfl ?_); refine goesL_ (some 7) rfl rfl Try.func68 (by kernel_rfl) rfl #[.agg #[.slice A0_0 l0_0.length c0_0, .slice A0_1 l0_1.length c0_1]] rfl (by (try simp only [List.map_toArray, List.map_cons, List.map_nil]); first | done | rfl | (simp only [List.length_drop, List.length_take]; rfl)) ?_; (with_reducible refine (spec_ArenaOk.calls k _ _ l0_0 _ _ l0_1 true _ ?side1 ?side2 ?side3 ?side4 A4.out).mono ?_); (case side1 => exact (Kd.C_below HR0_0.out HB.out)); (case side2 => exact HC0_0.out); (case side3 => exact (Kd.C_below HR0_1.out HB.out)); (case side4 => exact HC0_1.out); rintro e w22 ⟨rfl, hb⟩; refine ⟨_, rfl, ?_⟩; have n0_ := Aside0.mk (blk_below (g := gb148) (o := .cells #[.slice A0_0 l0_0.length c0_0, .slice A0_1 l0_1.length c0_1, .slice A0_2 l0_2.length c0_2, .slice A0_3 l0_3.length c0_3, .int .i64 a0_4] 30 (0, 0)) BK148.out hb); have n1_ := Aside0.mk (below_step (by repeat (first | (with_reducible first | exact HB.out | apply below_alloc | apply pw_below_drewN | apply below_drew1 | refine below_set ?_ GE148.out) | exact HB.out)) hb); replace BK148 := n0_; replace HB := n1_; clear n0_ n1_; (try clear hb); (try clear hb2); (try clear hk); (try clear hi); obtain ⟨hcz23_0, hcz23_1, hcz23_2, hcz23_3, hcz23_4, hfz23_0, hfz23_1, hfz23_2, hfz23_3, hfz23_4⟩ := cs5_ BK148.out) | (go_at_call 55; (with_reducible refine (spec_l1In.calls a0_4 0 1000000 false _ A6.out).mono ?_); rintro e w' ⟨rfl, ⟨nd, rfl⟩⟩))
    go_meet
    case rel => exact ⟨_, (true), (by first | rfl | (simp; done) | (simp [*]; done)), H', ⟨by first | omega | exact Nat.le_refl _⟩, ⟨BK148.out⟩, ⟨by repeat (first | (with_reducible first | exact HB.out | apply below_alloc | apply pw_below_drewN | apply below_drew1 | refine below_set ?_ GE148.out) | exact HB.out)⟩⟩
  ·replace c5 := Bool.eq_false_iff.mpr c5
   subst c5
   have H1 : (spec_YardOk.j0 k true l0_0 l0_1 l0_2 l0_3 a0_4) = some r := by rw [if_neg (show ¬ (false = true) by decide)] at H; exact H
   clear H
   have H := H1
   clear H1
   have H' := Aside0.mk H
   clear H
   obtain ⟨hcz24_0, hcz24_1, hcz24_2, hcz24_3, hcz24_4, hfz24_0, hfz24_1, hfz24_2, hfz24_3, hfz24_4⟩ := cs5_ BK148.out
   go_wp2_with (first | ((with_reducible refine gate_callee (f := 68) rfl ?_); refine goesL_ (some 7) rfl rfl Try.func68 (by kernel_rfl) rfl #[.agg #[.slice A0_0 l0_0.length c0_0, .slice A0_1 l0_1.length c0_1]] rfl (by (try simp only [List.map_toArray, List.map_cons, List.map_nil]); first | done | rfl | (simp only [List.length_drop, List.length_take]; rfl)) ?_; (with_reducible refine (spec_ArenaOk.calls k _ _ l0_0 _ _ l0_1 false _ ?side1 ?side2 ?side3 ?side4 A4.out).mono ?_); (case side1 => exact (Kd.C_below HR0_0.out HB.out)); (case side2 => exact HC0_0.out); (case side3 => exact (Kd.C_below HR0_1.out HB.out)); (case side4 => exact HC0_1.out); rintro e w25 ⟨rfl, hb⟩; refine ⟨_, rfl, ?_⟩; have n0_ := Aside0.mk (blk_below (g := gb148) (o := .cells #[.slice A0_0 l0_0.length c0_0, .slice A0_1 l0_1.length c0_1, .slice A0_2 l0_2.length c0_2, .slice A0_3 l0_3.length c0_3, .int .i64 a0_4] 30 (0, 0)) BK148.out hb); have n1_ := Aside0.mk (below_step (by repeat (first | (with_reducible first | exact HB.out | apply below_alloc | apply pw_below_drewN | apply below_drew1 | refine below_set ?_ GE148.out) | exact HB.out)) hb); replace BK148 := n0_; replace HB := n1_; clear n0_ n1_; (try clear hb); (try clear hb2); (try clear hk); (try clear hi)))
   go_meet
   case rel => exact ⟨_, (true), (by first | rfl | (simp; done) | (simp [*]; done)), H', ⟨by first | omega | exact Nat.le_refl _⟩, ⟨BK148.out⟩, ⟨by repeat (first | (with_reducible first | exact HB.out | apply below_alloc | apply pw_below_drewN | apply below_drew1 | refine below_set ?_ GE148.out) | exact HB.out)⟩⟩
 case rest =>
  clear HC2
  (try clear c1); (try clear p2); (try clear c3); (try clear c5); (try clear c6); (try clear c7); (try clear c9); (try clear c11); (try clear hcz12_0 hcz12_1 hcz12_2 hcz12_3 hcz12_4); (try clear hcz14_0 hcz14_1 hcz14_2 hcz14_3 hcz14_4); (try clear hcz15_0 hcz15_1 hcz15_2 hcz15_3 hcz15_4); (try clear hcz17_0 hcz17_1 hcz17_2 hcz17_3 hcz17_4); (try clear hcz18_0 hcz18_1 hcz18_2 hcz18_3 hcz18_4); (try clear hcz20_0 hcz20_1 hcz20_2 hcz20_3 hcz20_4); (try clear hcz21_0 hcz21_1 hcz21_2 hcz21_3 hcz21_4); (try clear hcz23_0 hcz23_1 hcz23_2 hcz23_3 hcz23_4); (try clear hcz24_0 hcz24_1 hcz24_2 hcz24_3 hcz24_4); (try clear hfz12_0 hfz12_1 hfz12_2 hfz12_3 hfz12_4); (try clear hfz14_0 hfz14_1 hfz14_2 hfz14_3 hfz14_4); (try clear hfz15_0 hfz15_1 hfz15_2 hfz15_3 hfz15_4); (try clear hfz17_0 hfz17_1 hfz17_2 hfz17_3 hfz17_4); (try clear hfz18_0 hfz18_1 hfz18_2 hfz18_3 hfz18_4); (try clear hfz20_0 hfz20_1 hfz20_2 hfz20_3 hfz20_4); (try clear hfz21_0 hfz21_1 hfz21_2 hfz21_3 hfz21_4); (try clear hfz23_0 hfz23_1 hfz23_2 hfz23_3 hfz23_4); (try clear hfz24_0 hfz24_1 hfz24_2 hfz24_3 hfz24_4)
  obtain ⟨kq, x35_1, rfl, HA, HJ1, BK148, HB⟩ := hcut
  cases kq with
  | zero => exact absurd HA.out (by simp [spec_YardOk.j0])
  | succ kj1 =>
   have H := HA.out
   clear HA
   simp only [spec_YardOk.j0] at H
   by_cases c26 : x35_1 = true
   ·subst c26
    have H1 : (some false) = some r := by rw [if_pos rfl] at H; exact H
    clear H
    have H := H1
    clear H1
    obtain rfl := Option.some.inj H
    go_wp2
    go_ret
    exact ⟨by first | rfl | (simp [errW_none, errW_some] <;> rfl) | (simp [*, errW_none, errW_some] <;> rfl), by repeat (first | (with_reducible first | exact HB.out | apply below_alloc | apply pw_below_drewN | apply below_drew1 | refine below_set ?_ GE148.out) | exact HB.out)⟩
   ·replace c26 := Bool.eq_false_iff.mpr c26
    subst c26
    have H1 : (spec_YardOk.l0 kj1 0 l0_0 l0_1 l0_2 l0_3 a0_4) = some r := by rw [if_neg (show ¬ (false = true) by decide)] at H; exact H
    clear H
    have H := H1
    clear H1
    have H' := Aside0.mk H
    clear H
    go_wp2
    go_loopg [3] kj1 (fun kq v3 w' => ∃ (x3_2 : Int), v3 = .int .i64 x3_2 ∧ Aside0 (spec_YardOk.l0 kq x3_2 l0_0 l0_1 l0_2 l0_3 a0_4 = some r) ∧ Aside0 (kq ≤ kj1) ∧ Aside0 (w'.heap[gb148]? = some (.cells #[(.slice A0_0 l0_0.length c0_0), (.slice A0_1 l0_1.length c0_1), (.slice A0_2 l0_2.length c0_2), (.slice A0_3 l0_3.length c0_3), .int .i64 a0_4] 30 (0, 0))) ∧ Aside0 (Below w.heap.size w w'))
    case atStart => exact ⟨(0), (by first | rfl | (simp; done) | (simp [*]; done)), H', ⟨Nat.le_refl _⟩, ⟨BK148.out⟩, ⟨by repeat (first | (with_reducible first | exact HB.out | apply below_alloc | apply pw_below_drewN | apply below_drew1 | refine below_set ?_ GE148.out) | exact HB.out)⟩⟩
    case round =>
     clear H'
     (try clear c1); (try clear c2); (try clear p2); (try clear c3); (try clear c5); (try clear c6); (try clear c7); (try clear c9); (try clear c11); (try clear c26); (try clear hcz12_0 hcz12_1 hcz12_2 hcz12_3 hcz12_4); (try clear hcz14_0 hcz14_1 hcz14_2 hcz14_3 hcz14_4); (try clear hcz15_0 hcz15_1 hcz15_2 hcz15_3 hcz15_4); (try clear hcz17_0 hcz17_1 hcz17_2 hcz17_3 hcz17_4); (try clear hcz18_0 hcz18_1 hcz18_2 hcz18_3 hcz18_4); (try clear hcz20_0 hcz20_1 hcz20_2 hcz20_3 hcz20_4); (try clear hcz21_0 hcz21_1 hcz21_2 hcz21_3 hcz21_4); (try clear hcz23_0 hcz23_1 hcz23_2 hcz23_3 hcz23_4); (try clear hcz24_0 hcz24_1 hcz24_2 hcz24_3 hcz24_4); (try clear hfz12_0 hfz12_1 hfz12_2 hfz12_3 hfz12_4); (try clear hfz14_0 hfz14_1 hfz14_2 hfz14_3 hfz14_4); (try clear hfz15_0 hfz15_1 hfz15_2 hfz15_3 hfz15_4); (try clear hfz17_0 hfz17_1 hfz17_2 hfz17_3 hfz17_4); (try clear hfz18_0 hfz18_1 hfz18_2 hfz18_3 hfz18_4); (try clear hfz20_0 hfz20_1 hfz20_2 hfz20_3 hfz20_4); (try clear hfz21_0 hfz21_1 hfz21_2 hfz21_3 hfz21_4); (try clear hfz23_0 hfz23_1 hfz23_2 hfz23_3 hfz23_4); (try clear hfz24_0 hfz24_1 hfz24_2 hfz24_3 hfz24_4); (try clear p2)
     obtain ⟨x3_2, rfl, HA, HK2, BK148, HB⟩ := hrel
     cases gk with
     | zero => exact absurd HA.out (by simp [spec_YardOk.l0])
     | succ k2 =>
      have H := HA.out
      clear HA
      simp only [spec_YardOk.l0] at H
      by_cases c27 : x3_2 < (l0_3.length : Int)
      ·rw [if_pos c27] at H
       have c27b0 : decide (x3_2 < (l0_3.length : Int)) = true := decide_eq_true c27
       clear c27
       by_cases c28 : 0 ≤ x3_2
       ·rw [if_pos c28] at H
        have c28b0 : decide (0 ≤ x3_2) = true := decide_eq_true c28
        clear c28
        replace H := Option.bind_eq_some_iff.mp H
        obtain ⟨t155, A290, H⟩ := H
        replace H : (if t155 = true then ((spec_l1In.f ((rd_T41 l0_3 x3_2).f1) 0 a0_4).bind fun t156 => (if t156 = true then (if x3_2 > 0 then (if 0 ≤ (wrap64 (x3_2 - 1)) then (if (wrap64 (x3_2 - 1)) < (l0_3.length : Int) then (if ((rd_T41 l0_3 (wrap64 (x3_2 - 1))).f1) > ((rd_T41 l0_3 x3_2).f1) then (some false) else (if x3_2 ≤ (l0_3.length : Int) then ((spec_l3Find.f k2 (l0_3.take (x3_2 : Int).toNat) ((rd_T41 l0_3 x3_2).f0)).bind fun t162 => (if t162 ≥ 0 then (some false) else (spec_YardOk.l0 k2 (wrap64 (x3_2 + 1)) l0_0 l0_1 l0_2 l0_3 a0_4))) else (none))) else (none)) else (none)) else (if x3_2 ≤ (l0_3.length : Int) then ((spec_l3Find.f k2 (l0_3.take (x3_2 : Int).toNat) ((rd_T41 l0_3 x3_2).f0)).bind fun t167 => (if t167 ≥ 0 then (some false) else (spec_YardOk.l0 k2 (wrap64 (x3_2 + 1)) l0_0 l0_1 l0_2 l0_3 a0_4))) else (none))) else (some false))) else (some false)) = some r := H
        have A29 := Aside0.mk A290
        clear A290
        by_cases c30 : t155 = true
        ·subst c30
         have H1 : ((spec_l1In.f ((rd_T41 l0_3 x3_2).f1) 0 a0_4).bind fun t156 => (if t156 = true then (if x3_2 > 0 then (if 0 ≤ (wrap64 (x3_2 - 1)) then (if (wrap64 (x3_2 - 1)) < (l0_3.length : Int) then (if ((rd_T41 l0_3 (wrap64 (x3_2 - 1))).f1) > ((rd_T41 l0_3 x3_2).f1) then (some false) else (if x3_2 ≤ (l0_3.length : Int) then ((spec_l3Find.f k2 (l0_3.take (x3_2 : Int).toNat) ((rd_T41 l0_3 x3_2).f0)).bind fun t162 => (if t162 ≥ 0 then (some false) else (spec_YardOk.l0 k2 (wrap64 (x3_2 + 1)) l0_0 l0_1 l0_2 l0_3 a0_4))) else (none))) else (none)) else (none)) else (if x3_2 ≤ (l0_3.length : Int) then ((spec_l3Find.f k2 (l0_3.take (x3_2 : Int).toNat) ((rd_T41 l0_3 x3_2).f0)).bind fun t167 => (if t167 ≥ 0 then (some false) else (spec_YardOk.l0 k2 (wrap64 (x3_2 + 1)) l0_0 l0_1 l0_2 l0_3 a0_4))) else (none))) else (some false))) = some r := by rw [if_pos rfl] at H; exact H
         clear H
         have H := H1
         clear H1
         replace H := Option.bind_eq_some_iff.mp H
         obtain ⟨t156, A310, H⟩ := H
         replace H : (if t156 = true then (if x3_2 > 0 then (if 0 ≤ (wrap64 (x3_2 - 1)) then (if (wrap64 (x3_2 - 1)) < (l0_3.length : Int) then (if ((rd_T41 l0_3 (wrap64 (x3_2 - 1))).f1) > ((rd_T41 l0_3 x3_2).f1) then (some false) else (if x3_2 ≤ (l0_3.length : Int) then ((spec_l3Find.f k2 (l0_3.take (x3_2 : Int).toNat) ((rd_T41 l0_3 x3_2).f0)).bind fun t162 => (if t162 ≥ 0 then (some false) else (spec_YardOk.l0 k2 (wrap64 (x3_2 + 1)) l0_0 l0_1 l0_2 l0_3 a0_4))) else (none))) else (none)) else (none)) else (if x3_2 ≤ (l0_3.length : Int) then ((spec_l3Find.f k2 (l0_3.take (x3_2 : Int).toNat) ((rd_T41 l0_3 x3_2).f0)).bind fun t167 => (if t167 ≥ 0 then (some false) else (spec_YardOk.l0 k2 (wrap64 (x3_2 + 1)) l0_0 l0_1 l0_2 l0_3 a0_4))) else (none))) else (some false)) = some r := H
         have A31 := Aside0.mk A310
         clear A310
         by_cases c32 : t156 = true
         ·subst c32
          have H1 : (if x3_2 > 0 then (if 0 ≤ (wrap64 (x3_2 - 1)) then (if (wrap64 (x3_2 - 1)) < (l0_3.length : Int) then (if ((rd_T41 l0_3 (wrap64 (x3_2 - 1))).f1) > ((rd_T41 l0_3 x3_2).f1) then (some false) else (if x3_2 ≤ (l0_3.length : Int) then ((spec_l3Find.f k2 (l0_3.take (x3_2 : Int).toNat) ((rd_T41 l0_3 x3_2).f0)).bind fun t162 => (if t162 ≥ 0 then (some false) else (spec_YardOk.l0 k2 (wrap64 (x3_2 + 1)) l0_0 l0_1 l0_2 l0_3 a0_4))) else (none))) else (none)) else (none)) else (if x3_2 ≤ (l0_3.length : Int) then ((spec_l3Find.f k2 (l0_3.take (x3_2 : Int).toNat) ((rd_T41 l0_3 x3_2).f0)).bind fun t167 => (if t167 ≥ 0 then (some false) else (spec_YardOk.l0 k2 (wrap64 (x3_2 + 1)) l0_0 l0_1 l0_2 l0_3 a0_4))) else (none))) = some r := by rw [if_pos rfl] at H; exact H
          clear H
          have H := H1
          clear H1
          by_cases c33 : x3_2 > 0
          ·rw [if_pos c33] at H
           have c33b0 : decide (0 < x3_2) = true := decide_eq_true c33
           clear c33
           obtain ⟨ji34, hji34⟩ : ∃ j_ : Int, (wrap64 (x3_2 - 1)) = j_ := ⟨_, rfl⟩
           replace H : (if 0 ≤ (ji34) then (if (ji34) < (l0_3.length : Int) then (if ((rd_T41 l0_3 (ji34)).f1) > ((rd_T41 l0_3 x3_2).f1) then (some false) else (if x3_2 ≤ (l0_3.length : Int) then ((spec_l3Find.f k2 (l0_3.take (x3_2 : Int).toNat) ((rd_T41 l0_3 x3_2).f0)).bind fun t162 => (if t162 ≥ 0 then (some false) else (spec_YardOk.l0 k2 (wrap64 (x3_2 + 1)) l0_0 l0_1 l0_2 l0_3 a0_4))) else (none))) else (none)) else (none)) = some r := by first | (rw [hji34] at H; exact H) | (simp only [hji34] at H ⊢; exact H)
           (try rw [hji34] at A29)
           (try rw [hji34] at A31)
           have hji34w : (IntKind.i64.wrap (x3_2 - 1)) = ji34 := (i64_w _).trans hji34
           by_cases c35 : 0 ≤ (ji34)
           ·rw [if_pos c35] at H
            have c35b0 : decide (0 ≤ (ji34)) = true := decide_eq_true c35
            clear c35
            by_cases c36 : (ji34) < (l0_3.length : Int)
            ·rw [if_pos c36] at H
             have c36b0 : decide ((ji34) < (l0_3.length : Int)) = true := decide_eq_true c36
             clear c36
             by_cases c37 : ((rd_T41 l0_3 (ji34)).f1) > ((rd_T41 l0_3 x3_2).f1)
             ·rw [if_pos c37] at H
              have c37b0 : decide (((rd_T41 l0_3 x3_2).f1) < ((rd_T41 l0_3 (ji34)).f1)) = true := decide_eq_true c37
              clear c37
              obtain rfl := Option.some.inj H
              obtain ⟨hcz38_0, hcz38_1, hcz38_2, hcz38_3, hcz38_4, hfz38_0, hfz38_1, hfz38_2, hfz38_3, hfz38_4⟩ := cs5_ BK148.out
              have p153 : 0 ≤ (x3_2 : Int) := of_decide_eq_true (by first | (with_reducible assumption) | assumption)
              have q153 : x3_2 < (l0_3.length : Int) := of_decide_eq_true (by first | (with_reducible assumption) | assumption)
              obtain ⟨ad153, e153, hx153_0, hx153_1⟩ := at_T41 HR0_3.out x3_2 p153 q153
              cases e153
              replace hx153_0 := (HB.out.cell (World.block_lt_of_cell? w _ hx153_0)).trans hx153_0
              replace hx153_1 := (HB.out.cell (World.block_lt_of_cell? w _ hx153_1)).trans hx153_1
              replace p153 := eq_true p153
              replace q153 := eq_true q153
              try go_wp2_with (first | ((with_reducible refine gate_dst (N := 4) rfl ?_); (try (refine gate_guard (by rfl) ?_; dsimp only)); refine box_event ?hg (N := 4) ?hd (cs := #[.int .i64 0, .int .i64 0]) (t := 41) ?hr ?_; (case hd => rfl); (case hg => rfl); (case hr => first | (go_simp; done) | (go_simp; rfl)); intro gb154 hg w39 hbox hb; have n0_ := Aside0.mk (blk_below (g := gb148) (o := .cells #[.slice A0_0 l0_0.length c0_0, .slice A0_1 l0_1.length c0_1, .slice A0_2 l0_2.length c0_2, .slice (some ad153) l0_3.length c0_3, .int .i64 a0_4] 30 (0, 0)) BK148.out hb); have n1_ := Aside0.mk (below_step (by repeat (first | (with_reducible first | exact HB.out | apply below_alloc | apply pw_below_drewN | apply below_drew1 | refine below_set ?_ GE148.out) | exact HB.out)) hb); have n2_ := Aside0.mk (hbox); have n3_ := Aside0.mk ((by rw [hg]; exact (below_size (by repeat (first | (with_reducible first | exact HB.out | apply below_alloc | apply pw_below_drewN | apply below_drew1 | refine below_set ?_ GE148.out) | exact HB.out))) : w.heap.size ≤ gb154)); have n4_ := n3_; have n5_ := Aside0.mk ((by rw [hg]; exact Nat.ne_of_lt (blk_lt (g := gb148) (o := .cells #[.slice A0_0 l0_0.length c0_0, .slice A0_1 l0_1.length c0_1, .slice A0_2 l0_2.length c0_2, .slice (some ad153) l0_3.length c0_3, .int .i64 a0_4] 30 (0, 0)) BK148.out) : gb148 ≠ gb154)); have n6_ := Aside0.mk ((by rw [hg]; exact Nat.ne_of_gt (blk_lt (g := gb148) (o := .cells #[.slice A0_0 l0_0.length c0_0, .slice A0_1 l0_1.length c0_1, .slice A0_2 l0_2.length c0_2, .slice (some ad153) l0_3.length c0_3, .int .i64 a0_4] 30 (0, 0)) BK148.out) : gb154 ≠ gb148)); replace BK148 := n0_; replace HB := n1_; have BK154 := n2_; have GW154 := n3_; have GE154 := n4_; have NB148_154 := n5_; have NB154_148 := n6_; clear n0_ n1_ n2_ n3_ n4_ n5_ n6_; clear hb hbox hg; have hnb40 := NB154_148.out; have hnc40 := NB148_154.out; obtain ⟨hcz41_0, hcz41_1, hfz41_0, hfz41_1⟩ := cs2_ BK154.out))
              have n0_ : Aside0 (((w39.setCell ⟨gb154, 0, none⟩ (.int .i64 ((rd_T41 l0_3 x3_2).f0))).setCell ⟨gb154, 1, none⟩ (.int .i64 ((rd_T41 l0_3 x3_2).f1))).heap[gb148]? = some (.cells #[.slice A0_0 l0_0.length c0_0, .slice A0_1 l0_1.length c0_1, .slice A0_2 l0_2.length c0_2, .slice (some ad153) l0_3.length c0_3, .int .i64 a0_4] 30 (0, 0))) := ⟨by (with_reducible repeat (first | refine blk_drewN ?_ _ | refine blk_drew ?_ | refine blk_alloc ?_ _)); refine blk_far ?_ NB148_154.out _; (with_reducible repeat (first | refine blk_drewN ?_ _ | refine blk_drew ?_ | refine blk_alloc ?_ _)); refine blk_far ?_ NB148_154.out _; (with_reducible repeat (first | refine blk_drewN ?_ _ | refine blk_drew ?_ | refine blk_alloc ?_ _)); exact BK148.out⟩
              have n1_ : Aside0 (((w39.setCell ⟨gb154, 0, none⟩ (.int .i64 ((rd_T41 l0_3 x3_2).f0))).setCell ⟨gb154, 1, none⟩ (.int .i64 ((rd_T41 l0_3 x3_2).f1))).heap[gb154]? = some (.cells #[.int .i64 ((rd_T41 l0_3 x3_2).f0), .int .i64 ((rd_T41 l0_3 x3_2).f1)] 41 (0, 0))) := ⟨by (with_reducible repeat (first | refine blk_drewN ?_ _ | refine blk_drew ?_ | refine blk_alloc ?_ _)); refine blk_put (cs := #[.int .i64 ((rd_T41 l0_3 x3_2).f0), .int .i64 0]) ?_ 1 _ rfl; (with_reducible repeat (first | refine blk_drewN ?_ _ | refine blk_drew ?_ | refine blk_alloc ?_ _)); refine blk_put (cs := #[.int .i64 0, .int .i64 0]) ?_ 0 _ rfl; (with_reducible repeat (first | refine blk_drewN ?_ _ | refine blk_drew ?_ | refine blk_alloc ?_ _)); exact BK154.out⟩
              have n2_ : Aside0 (Below w.heap.size w ((w39.setCell ⟨gb154, 0, none⟩ (.int .i64 ((rd_T41 l0_3 x3_2).f0))).setCell ⟨gb154, 1, none⟩ (.int .i64 ((rd_T41 l0_3 x3_2).f1)))) := ⟨by repeat (first | (with_reducible first | exact HB.out | apply below_alloc | apply pw_below_drewN | apply below_drew1 | refine below_set ?_ GE148.out | refine below_set ?_ GE154.out) | exact HB.out)⟩
              (try clear BK148)
              (try clear BK154)
              (try clear HB)
              generalize ((w39.setCell ⟨gb154, 0, none⟩ (.int .i64 ((rd_T41 l0_3 x3_2).f0))).setCell ⟨gb154, 1, none⟩ (.int .i64 ((rd_T41 l0_3 x3_2).f1))) = w42 at n0_ n1_ n2_ ⊢
              have BK148 := n0_
              have BK154 := n1_
              have HB := n2_
              clear n0_ n1_ n2_
              have n0_ := Aside0.mk (blk_drew BK148.out)
              have n1_ := Aside0.mk (blk_drew BK154.out)
              have n2_ := Aside0.mk (below_drew1 HB.out)
              clear BK148
              clear BK154
              clear HB
              have BK148 := n0_
              have BK154 := n1_
              have HB := n2_
              clear n0_ n1_ n2_
              have p157 : 0 ≤ ((ji34) : Int) := of_decide_eq_true (by first | (with_reducible assumption) | assumption)
              have q157 : (ji34) < (l0_3.length : Int) := of_decide_eq_true (by first | (with_reducible assumption) | assumption)
              obtain ⟨ad157, e157, hx157_0, hx157_1⟩ := at_T41 HR0_3.out (ji34) p157 q157
              have hw157_1 := hx157_1
              have hw157_0 := hx157_0
              obtain rfl : ad153 = ad157 := (by injection e157)
              replace hx157_0 := (HB.out.cell (World.block_lt_of_cell? w _ hx157_0)).trans hx157_0
              replace hx157_1 := (HB.out.cell (World.block_lt_of_cell? w _ hx157_1)).trans hx157_1
              replace p157 := eq_true p157
              replace q157 := eq_true q157
              refine start_ (n := 40) (S := fun w' => w'.cell? ⟨gb148, 0, none⟩ = some (.slice A0_0 l0_0.length c0_0) ∧ w'.cell? ⟨gb148, 1, none⟩ = some (.slice A0_1 l0_1.length c0_1) ∧ w'.cell? ⟨gb148, 2, none⟩ = some (.slice A0_2 l0_2.length c0_2) ∧ w'.cell? ⟨gb148, 3, none⟩ = some (.slice (some ad153) l0_3.length c0_3) ∧ w'.cell? ⟨gb148, 4, none⟩ = some (.int .i64 a0_4) ∧ w'.cell? ⟨gb154, 0, none⟩ = some (.int .i64 ((rd_T41 l0_3 x3_2).f0)) ∧ w'.cell? ⟨gb154, 1, none⟩ = some (.int .i64 ((rd_T41 l0_3 x3_2).f1)) ∧ w'.cell? (ad153.add (((ji34)).toNat * 2)) = some (.int .i64 ((rd_T41 l0_3 (ji34)).f0)) ∧ w'.cell? ⟨(ad153.add (((ji34)).toNat * 2)).block, (ad153.add (((ji34)).toNat * 2)).off + 1, none⟩ = some (.int .i64 ((rd_T41 l0_3 (ji34)).f1))) (ds := []) spec_YardOk.bt0_ (by kernel_rfl) rfl rfl ⟨(blk_cell BK148.out 0).trans rfl, (blk_cell BK148.out 1).trans rfl, (blk_cell BK148.out 2).trans rfl, (blk_cell BK148.out 3).trans rfl, (blk_cell BK148.out 4).trans rfl, (blk_cell BK154.out 0).trans rfl, (blk_cell BK154.out 1).trans rfl, ((HB.out.cell (World.block_lt_of_cell? w _ hw157_0)).trans hw157_0), ((HB.out.cell (World.block_lt_of_cell? w _ hw157_1)).trans hw157_1)⟩ (fun hHeld => ?_); refine with_tabW spec_YardOk.tab7 spec_YardOk.bits7 (fun HT_ HW_ => ?_)
              generalize w42.drew = w43 at BK148 BK154 HB hx157_0 hx157_1 hHeld ⊢
              refine pure_ (i := 0) (N := some 48) (v := ?_) (a' := ?_) spec_YardOk.bt1_ rfl rfl (any_of HT_.out (by kernel_rfl)) (fun _ _ _ h => h) (Or.inl ⟨by rfl, ?_⟩) ?_ ?_
              rotate_left
              ·intro w'
               go_simp
               with_reducible rfl
              rotate_left
              ·simp only [Act.put, sx_, sy_, sz_, i64_w, i32_w]
               rfl
              refine pure_ (i := 2) (N := some 50) (v := ?_) (a' := ?_) spec_YardOk.bt2_ rfl rfl (any_of HT_.out (by kernel_rfl)) (fun _ _ _ h => h) (Or.inl ⟨by rfl, ?_⟩) ?_ ?_
              rotate_left
              ·intro w'
               go_simp
               with_reducible rfl
              rotate_left
              ·simp only [Act.put, sx_, sy_, sz_, i64_w, i32_w]
               rfl
              refine take_ (i := 1) (N := some 49) (v := ?_) (a' := ?_) spec_YardOk.bt3_ rfl rfl (take_ofW HT_.out HW_.out (by kernel_rfl)) (fun _ _ _ h => h) (Or.inl ⟨by rfl, ?_⟩) hHeld ?_ ?_
              rotate_left
              ·rintro w' ⟨s0, s1, s2, s3, s4, s5, s6, s7, s8⟩
               go_simp
               with_reducible rfl
              rotate_left
              ·simp only [Act.put, sx_, sy_, sz_, i64_w, i32_w]
               rfl
              refine take_ (i := 3) (N := some 51) (v := ?_) (a' := ?_) spec_YardOk.bt4_ rfl rfl (take_ofW HT_.out HW_.out (by kernel_rfl)) (fun _ _ _ h => h) (Or.inl ⟨by rfl, ?_⟩) hHeld ?_ ?_
              rotate_left
              ·rintro w' ⟨s0, s1, s2, s3, s4, s5, s6, s7, s8⟩
               go_simp
               with_reducible rfl
              rotate_left
              ·simp only [Act.put, sx_, sy_, sz_, i64_w, i32_w]
               rfl
              refine one_ (i := 4) (N := some 52) spec_YardOk.bt5_ rfl rfl (one_of HT_.out (by kernel_rfl)) (by decide) (fun K hK => ?_)
              refine goes_ Try.func70 (by kernel_rfl) rfl #[.agg #[.slice A0_0 l0_0.length c0_0, .slice A0_1 l0_1.length c0_1], .int .i64 ((rd_T41 l0_3 x3_2).f0)] (by rfl) rfl rfl (by (try simp only [List.map_toArray, List.map_cons, List.map_nil]); first | done | rfl | (simp only [List.length_drop, List.length_take]; rfl)) ?_
              with_reducible refine (spec_Live.calls k2 _ _ l0_0 _ _ l0_1 ((rd_T41 l0_3 x3_2).f0) true _ ?side1 ?side2 ?side3 ?side4 A29.out).mono ?_
              (case side1 => exact (Kd.C_below HR0_0.out HB.out))
              (case side2 => exact HC0_0.out)
              (case side3 => exact (Kd.C_below HR0_1.out HB.out))
              (case side4 => exact HC0_1.out)
              rintro e w44 ⟨rfl, hb⟩
              refine ⟨_, rfl, ?_⟩
              have n0_ := Aside0.mk (blk_below (g := gb148) (o := .cells #[.slice A0_0 l0_0.length c0_0, .slice A0_1 l0_1.length c0_1, .slice A0_2 l0_2.length c0_2, .slice (some ad153) l0_3.length c0_3, .int .i64 a0_4] 30 (0, 0)) BK148.out hb)
              have n1_ := Aside0.mk (blk_below (g := gb154) (o := .cells #[.int .i64 ((rd_T41 l0_3 x3_2).f0), .int .i64 ((rd_T41 l0_3 x3_2).f1)] 41 (0, 0)) BK154.out hb)
              have n2_ := Aside0.mk (below_step (by repeat (first | (with_reducible first | exact HB.out | apply below_alloc | apply pw_below_drewN | apply below_drew1 | refine below_set ?_ GE148.out | refine below_set ?_ GE154.out) | exact HB.out)) hb)
              clear BK148
              clear BK154
              clear HB
              have BK148 := n0_
              have BK154 := n1_
              have HB := n2_
              clear n0_ n1_ n2_
              (try clear hb)
              (try clear hb2)
              (try clear hk)
              (try clear hi)
              refine hK.out _ _ ⟨(blk_cell BK148.out 0).trans rfl, (blk_cell BK148.out 1).trans rfl, (blk_cell BK148.out 2).trans rfl, (blk_cell BK148.out 3).trans rfl, (blk_cell BK148.out 4).trans rfl, (blk_cell BK154.out 0).trans rfl, (blk_cell BK154.out 1).trans rfl, ((HB.out.cell (World.block_lt_of_cell? w _ hw157_0)).trans hw157_0), ((HB.out.cell (World.block_lt_of_cell? w _ hw157_1)).trans hw157_1)⟩ (fun hHeld => ?_)
              clear hK K
              refine norm_ (a' := ?_) ?_ ?_
              rotate_left
              ·show Act.put _ (some 52) _ = _
               simp only [Act.put, sx_, sy_, sz_, i64_w, i32_w]
               rfl
              refine pure_ (i := 5) (N := some 53) (v := ?_) (a' := ?_) spec_YardOk.bt6_ rfl rfl (any_of HT_.out (by kernel_rfl)) (fun _ _ _ h => h) (Or.inl ⟨by rfl, ?_⟩) ?_ ?_
              rotate_left
              ·intro w'
               go_simp
               with_reducible rfl
              rotate_left
              ·simp only [Act.put, sx_, sy_, sz_, i64_w, i32_w]
               rfl
              refine pure_ (i := 6) (N := some 54) (v := ?_) (a' := ?_) spec_YardOk.bt7_ rfl rfl (any_of HT_.out (by kernel_rfl)) (fun _ _ _ h => h) (Or.inl ⟨by rfl, ?_⟩) ?_ ?_
              rotate_left
              ·intro w'
               go_simp
               with_reducible rfl
              rotate_left
              ·simp only [Act.put, sx_, sy_, sz_, i64_w, i32_w]
               rfl
              refine pure_ (i := 7) (N := some 55) (v := ?_) (a' := ?_) spec_YardOk.bt8_ rfl rfl (any_of HT_.out (by kernel_rfl)) (fun _ _ _ h => h) (Or.inl ⟨by rfl, ?_⟩) ?_ ?_
              rotate_left
              ·intro w'
               go_simp
               with_reducible rfl
              rotate_left
              ·simp only [Act.put, sx_, sy_, sz_, i64_w, i32_w]
               rfl
              refine pure_ (i := 9) (N := some 57) (v := ?_) (a' := ?_) spec_YardOk.bt9_ rfl rfl (any_of HT_.out (by kernel_rfl)) (fun _ _ _ h => h) (Or.inl ⟨by rfl, ?_⟩) ?_ ?_
              rotate_left
              ·intro w'
               go_simp
               with_reducible rfl
              rotate_left
              ·simp only [Act.put, sx_, sy_, sz_, i64_w, i32_w]
               rfl
              refine take_ (i := 8) (N := some 56) (v := ?_) (a' := ?_) spec_YardOk.bt10_ rfl rfl (take_ofW HT_.out HW_.out (by kernel_rfl)) (fun _ _ _ h => h) (Or.inl ⟨by rfl, ?_⟩) hHeld ?_ ?_
              rotate_left
              ·rintro w' ⟨s0, s1, s2, s3, s4, s5, s6, s7, s8⟩
               go_simp
               with_reducible rfl
              rotate_left
              ·simp only [Act.put, sx_, sy_, sz_, i64_w, i32_w]
               rfl
              refine take_ (i := 10) (N := some 58) (v := ?_) (a' := ?_) spec_YardOk.bt11_ rfl rfl (take_ofW HT_.out HW_.out (by kernel_rfl)) (fun _ _ _ h => h) (Or.inl ⟨by rfl, ?_⟩) hHeld ?_ ?_
              rotate_left
              ·rintro w' ⟨s0, s1, s2, s3, s4, s5, s6, s7, s8⟩
               go_simp
               with_reducible rfl
              rotate_left
              ·simp only [Act.put, sx_, sy_, sz_, i64_w, i32_w]
               rfl
              refine one_ (i := 11) (N := some 59) spec_YardOk.bt12_ rfl rfl (one_of HT_.out (by kernel_rfl)) (by decide) (fun K hK => ?_)
              refine goes_ Try.func55 (by kernel_rfl) rfl #[.int .i64 ((rd_T41 l0_3 x3_2).f1), .int .i64 0, .int .i64 a0_4] (by rfl) rfl rfl (by (try simp only [List.map_toArray, List.map_cons, List.map_nil]); first | done | rfl | (simp only [List.length_drop, List.length_take]; rfl)) ?_
              with_reducible refine (spec_l1In.calls ((rd_T41 l0_3 x3_2).f1) 0 a0_4 true _ A31.out).mono ?_
              rintro e w' ⟨rfl, ⟨nd, rfl⟩⟩
              refine ⟨_, rfl, ?_⟩
              refine hK.out _ _ ⟨(blk_cell BK148.out 0).trans rfl, (blk_cell BK148.out 1).trans rfl, (blk_cell BK148.out 2).trans rfl, (blk_cell BK148.out 3).trans rfl, (blk_cell BK148.out 4).trans rfl, (blk_cell BK154.out 0).trans rfl, (blk_cell BK154.out 1).trans rfl, ((HB.out.cell (World.block_lt_of_cell? w _ hw157_0)).trans hw157_0), ((HB.out.cell (World.block_lt_of_cell? w _ hw157_1)).trans hw157_1)⟩ (fun hHeld => ?_)
              clear hK K
              refine norm_ (a' := ?_) ?_ ?_
              rotate_left
              ·show Act.put _ (some 59) _ = _
               simp only [Act.put, sx_, sy_, sz_, i64_w, i32_w]
               rfl
              refine pure_ (i := 12) (N := some 60) (v := ?_) (a' := ?_) spec_YardOk.bt13_ rfl rfl (any_of HT_.out (by kernel_rfl)) (fun _ _ _ h => h) (Or.inl ⟨by rfl, ?_⟩) ?_ ?_
              rotate_left
              ·intro w'
               go_simp
               with_reducible rfl
              rotate_left
              ·simp only [Act.put, sx_, sy_, sz_, i64_w, i32_w]
               rfl
              refine pure_ (i := 13) (N := some 61) (v := ?_) (a' := ?_) spec_YardOk.bt14_ rfl rfl (any_of HT_.out (by kernel_rfl)) (fun _ _ _ h => h) (Or.inl ⟨by rfl, ?_⟩) ?_ ?_
              rotate_left
              ·intro w'
               go_simp
               with_reducible rfl
              rotate_left
              ·simp only [Act.put, sx_, sy_, sz_, i64_w, i32_w]
               rfl
              refine pure_ (i := 14) (N := some 62) (v := ?_) (a' := ?_) spec_YardOk.bt15_ rfl rfl (any_of HT_.out (by kernel_rfl)) (fun _ _ _ h => h) (Or.inl ⟨by rfl, ?_⟩) ?_ ?_
              rotate_left
              ·intro w'
               go_simp
               with_reducible rfl
              rotate_left
              ·simp only [Act.put, sx_, sy_, sz_, i64_w, i32_w]
               rfl
              refine pure_ (i := 15) (N := some 63) (v := ?_) (a' := ?_) spec_YardOk.bt16_ rfl rfl (any_of HT_.out (by kernel_rfl)) (fun _ _ _ h => h) (Or.inl ⟨by rfl, ?_⟩) ?_ ?_
              rotate_left
              ·intro w'
               go_simp
               with_reducible rfl
              rotate_left
              ·simp only [Act.put, sx_, sy_, sz_, i64_w, i32_w]
               rfl
              refine pure_ (i := 16) (N := some 64) (v := ?_) (a' := ?_) spec_YardOk.bt17_ rfl rfl (any_of HT_.out (by kernel_rfl)) (fun _ _ _ h => h) (Or.inl ⟨by rfl, ?_⟩) ?_ ?_
              rotate_left
              ·intro w'
               go_simp
               with_reducible rfl
              rotate_left
              ·simp only [Act.put, sx_, sy_, sz_, i64_w, i32_w]
               rfl
              refine pure_ (i := 17) (N := some 65) (v := ?_) (a' := ?_) spec_YardOk.bt18_ rfl rfl (any_of HT_.out (by kernel_rfl)) (fun _ _ _ h => h) (Or.inl ⟨by rfl, ?_⟩) ?_ ?_
              rotate_left
              ·intro w'
               go_simp
               with_reducible rfl
              rotate_left
              ·simp only [Act.put, sx_, sy_, sz_, i64_w, i32_w]
               rfl
              refine pure_ (i := 18) (N := some 66) (v := ?_) (a' := ?_) spec_YardOk.bt19_ rfl rfl (any_of HT_.out (by kernel_rfl)) (fun _ _ _ h => h) (Or.inl ⟨by rfl, ?_⟩) ?_ ?_
              rotate_left
              ·intro w'
               go_simp
               with_reducible rfl
              rotate_left
              ·simp only [Act.put, sx_, sy_, sz_, i64_w, i32_w]
               rfl
              refine pure_ (i := 20) (N := some 68) (v := ?_) (a' := ?_) spec_YardOk.bt20_ rfl rfl (any_of HT_.out (by kernel_rfl)) (fun _ _ _ h => h) (Or.inl ⟨by rfl, ?_⟩) ?_ ?_
              rotate_left
              ·intro w'
               go_simp
               with_reducible rfl
              rotate_left
              ·simp only [Act.put, sx_, sy_, sz_, i64_w, i32_w]
               rfl
              refine pure_ (i := 21) (N := some 69) (v := ?_) (a' := ?_) spec_YardOk.bt21_ rfl rfl (any_of HT_.out (by kernel_rfl)) (fun _ _ _ h => h) (Or.inl ⟨by rfl, ?_⟩) ?_ ?_
              rotate_left
              ·intro w'
               go_simp
               with_reducible rfl
              rotate_left
              ·simp only [Act.put, sx_, sy_, sz_, i64_w, i32_w]
               rfl
              refine pure_ (i := 25) (N := some 73) (v := ?_) (a' := ?_) spec_YardOk.bt22_ rfl rfl (any_of HT_.out (by kernel_rfl)) (fun _ _ _ h => h) (Or.inl ⟨by rfl, ?_⟩) ?_ ?_
              rotate_left
              ·intro w'
               go_simp
               with_reducible rfl
              rotate_left
              ·simp only [Act.put, sx_, sy_, sz_, i64_w, i32_w]
               rfl
              refine take_ (i := 19) (N := some 67) (v := ?_) (a' := ?_) spec_YardOk.bt23_ rfl rfl (take_ofW HT_.out HW_.out (by kernel_rfl)) (fun _ _ _ h => h) (Or.inl ⟨by rfl, ?_⟩) hHeld ?_ ?_
              rotate_left
              ·rintro w' ⟨s0, s1, s2, s3, s4, s5, s6, s7, s8⟩
               go_simp
               with_reducible rfl
              rotate_left
              ·simp only [Act.put, sx_, sy_, sz_, i64_w, i32_w]
               rfl
              refine pure_ (i := 22) (N := some 70) (v := ?_) (a' := ?_) spec_YardOk.bt24_ rfl rfl (any_of HT_.out (by kernel_rfl)) (fun _ _ _ h => h) (Or.inl ⟨by rfl, ?_⟩) ?_ ?_
              rotate_left
              ·intro w'
               go_simp
               with_reducible rfl
              rotate_left
              ·simp only [Act.put, sx_, sy_, sz_, i64_w, i32_w]
               rfl
              refine pure_ (i := 23) (N := some 71) (v := ?_) (a' := ?_) spec_YardOk.bt25_ rfl rfl (any_of HT_.out (by kernel_rfl)) (fun _ _ _ h => h) (Or.inl ⟨by rfl, ?_⟩) ?_ ?_
              rotate_left
              ·intro w'
               go_simp
               with_reducible rfl
              rotate_left
              ·simp only [Act.put, sx_, sy_, sz_, i64_w, i32_w]
               rfl
              refine take_ (i := 24) (N := some 72) (v := ?_) (a' := ?_) spec_YardOk.bt26_ rfl rfl (take_ofW HT_.out HW_.out (by kernel_rfl)) (fun _ _ _ h => h) (Or.inl ⟨by rfl, ?_⟩) hHeld ?_ ?_
              rotate_left
              ·rintro w' ⟨s0, s1, s2, s3, s4, s5, s6, s7, s8⟩
               go_simp
               with_reducible rfl
              rotate_left
              ·simp only [Act.put, sx_, sy_, sz_, i64_w, i32_w]
               rfl
              refine take_ (i := 26) (N := some 74) (v := ?_) (a' := ?_) spec_YardOk.bt27_ rfl rfl (take_ofW HT_.out HW_.out (by kernel_rfl)) (fun _ _ _ h => h) (Or.inl ⟨by rfl, ?_⟩) hHeld ?_ ?_
              rotate_left
              ·rintro w' ⟨s0, s1, s2, s3, s4, s5, s6, s7, s8⟩
               go_simp
               with_reducible rfl
              rotate_left
              ·simp only [Act.put, sx_, sy_, sz_, i64_w, i32_w]
               rfl
              refine pure_ (i := 27) (N := some 75) (v := ?_) (a' := ?_) spec_YardOk.bt28_ rfl rfl (any_of HT_.out (by kernel_rfl)) (fun _ _ _ h => h) (Or.inl ⟨by rfl, ?_⟩) ?_ ?_
              rotate_left
              ·intro w'
               go_simp
               with_reducible rfl
              rotate_left
              ·simp only [Act.put, sx_, sy_, sz_, i64_w, i32_w]
               rfl
              refine pure_ (i := 28) (N := some 76) (v := ?_) (a' := ?_) spec_YardOk.bt29_ rfl rfl (any_of HT_.out (by kernel_rfl)) (fun _ _ _ h => h) (Or.inl ⟨by rfl, ?_⟩) ?_ ?_
              rotate_left
              ·intro w'
               go_simp
               with_reducible rfl
              rotate_left
              ·simp only [Act.put, sx_, sy_, sz_, i64_w, i32_w]
               rfl
              refine pure_ (i := 29) (N := some 77) (v := ?_) (a' := ?_) spec_YardOk.bt30_ rfl rfl (any_of HT_.out (by kernel_rfl)) (fun _ _ _ h => h) (Or.inl ⟨by rfl, ?_⟩) ?_ ?_
              rotate_left
              ·intro w'
               go_simp
               with_reducible rfl
              rotate_left
              ·simp only [Act.put, sx_, sy_, sz_, i64_w, i32_w]
               rfl
              refine pure_ (i := 30) (N := some 78) (v := ?_) (a' := ?_) spec_YardOk.bt31_ rfl rfl (any_of HT_.out (by kernel_rfl)) (fun _ _ _ h => h) (Or.inl ⟨by rfl, ?_⟩) ?_ ?_
              rotate_left
              ·intro w'
               go_simp
               with_reducible rfl
              rotate_left
              ·simp only [Act.put, sx_, sy_, sz_, i64_w, i32_w]
               rfl
              refine pure_ (i := 31) (N := some 79) (v := undef) (a' := ?_) spec_YardOk.bt32_ rfl rfl (any_of HT_.out (by kernel_rfl)) (fun _ _ _ h => h) (Or.inr ⟨by rfl, rfl⟩) ?_ ?_
              rotate_left
              ·simp only [Act.put, sx_, sy_, sz_, i64_w, i32_w]
               rfl
              refine pure_ (i := 32) (N := some 80) (v := undef) (a' := ?_) spec_YardOk.bt33_ rfl rfl (any_of HT_.out (by kernel_rfl)) (fun _ _ _ h => h) (Or.inr ⟨by rfl, rfl⟩) ?_ ?_
              rotate_left
              ·simp only [Act.put, sx_, sy_, sz_, i64_w, i32_w]
               rfl
              refine pure_ (i := 33) (N := some 81) (v := undef) (a' := ?_) spec_YardOk.bt34_ rfl rfl (any_of HT_.out (by kernel_rfl)) (fun _ _ _ h => h) (Or.inr ⟨by rfl, rfl⟩) ?_ ?_
              rotate_left
              ·simp only [Act.put, sx_, sy_, sz_, i64_w, i32_w]
               rfl
              refine pure_ (i := 34) (N := some 82) (v := undef) (a' := ?_) spec_YardOk.bt35_ rfl rfl (any_of HT_.out (by kernel_rfl)) (fun _ _ _ h => h) (Or.inr ⟨by rfl, rfl⟩) ?_ ?_
              rotate_left
              ·simp only [Act.put, sx_, sy_, sz_, i64_w, i32_w]
               rfl
              refine pure_ (i := 35) (N := some 83) (v := undef) (a' := ?_) spec_YardOk.bt36_ rfl rfl (any_of HT_.out (by kernel_rfl)) (fun _ _ _ h => h) (Or.inr ⟨by rfl, rfl⟩) ?_ ?_
              rotate_left
              ·simp only [Act.put, sx_, sy_, sz_, i64_w, i32_w]
               rfl
              refine pure_ (i := 36) (N := some 84) (v := undef) (a' := ?_) spec_YardOk.bt37_ rfl rfl (any_of HT_.out (by kernel_rfl)) (fun _ _ _ h => h) (Or.inr ⟨by rfl, rfl⟩) ?_ ?_
              rotate_left
              ·simp only [Act.put, sx_, sy_, sz_, i64_w, i32_w]
               rfl
              refine pure_ (i := 37) (N := some 85) (v := undef) (a' := ?_) spec_YardOk.bt38_ rfl rfl (any_of HT_.out (by kernel_rfl)) (fun _ _ _ h => h) (Or.inr ⟨by rfl, rfl⟩) ?_ ?_
              rotate_left
              ·simp only [Act.put, sx_, sy_, sz_, i64_w, i32_w]
               rfl
              refine pure_ (i := 38) (N := some 86) (v := undef) (a' := ?_) spec_YardOk.bt39_ rfl rfl (any_of HT_.out (by kernel_rfl)) (fun _ _ _ h => h) (Or.inr ⟨by rfl, rfl⟩) ?_ ?_
              rotate_left
              ·simp only [Act.put, sx_, sy_, sz_, i64_w, i32_w]
               rfl
              refine pure_ (i := 39) (N := some 87) (v := ?_) (a' := ?_) spec_YardOk.bt40_ rfl rfl (any_of HT_.out (by kernel_rfl)) (fun _ _ _ h => h) (Or.inl ⟨by rfl, ?_⟩) ?_ ?_
              rotate_left
              ·intro w'
               go_simp
               with_reducible rfl
              rotate_left
              ·simp only [Act.put, sx_, sy_, sz_, i64_w, i32_w]
               rfl
              refine done_ (done_of HT_.out (by kernel_rfl)) ?_
              try go_wp2
              go_ret
              exact ⟨by first | rfl | (simp [errW_none, errW_some] <;> rfl) | (simp only [← hji34]; first | rfl | (simp [errW_none, errW_some] <;> rfl)) | (simp [*, errW_none, errW_some] <;> rfl), by repeat (first | (with_reducible first | exact HB.out | apply below_alloc | apply pw_below_drewN | apply below_drew1 | refine below_set ?_ GE148.out | refine below_set ?_ GE154.out) | exact HB.out)⟩
             ·rw [if_neg c37] at H
              have c37b0 : decide (((rd_T41 l0_3 x3_2).f1) < ((rd_T41 l0_3 (ji34)).f1)) = false := decide_eq_false c37
              clear c37
              have c45b0 := eq_true (of_decide_eq_true (by first | (with_reducible assumption) | assumption) : 0 ≤ x3_2)
              by_cases c46 : x3_2 ≤ (l0_3.length : Int)
              ·rw [if_pos c46] at H
               have c46b0 := eq_true c46
               have c46b1 : decide (x3_2 ≤ (l0_3.length : Int)) = true := decide_eq_true c46
               clear c46
               obtain ⟨y158, hy158⟩ : ∃ y_ : List (S41), y_ = (l0_3.take (x3_2 : Int).toNat) := ⟨_, rfl⟩
               replace H : ((spec_l3Find.f k2 y158 ((rd_T41 l0_3 x3_2).f0)).bind fun t162 => (if t162 ≥ 0 then (some false) else (spec_YardOk.l0 k2 (wrap64 (x3_2 + 1)) l0_0 l0_1 l0_2 l0_3 a0_4))) = some r := by first | (rw [hy158]; with_reducible exact H) | (have H2_ := (Option.bind_some _ _).symm.trans H; rw [hy158]; with_reducible exact H2_) | (have H2_ := (Option.bind_some _ _).symm.trans H; with_reducible exact H2_) | with_reducible exact H | (rw [hy158]; exact H) | exact H
               have Ny158 := Aside0.mk hy158
               clear hy158
               replace H := Option.bind_eq_some_iff.mp H
               obtain ⟨t162, A470, H⟩ := H
               replace H : (if t162 ≥ 0 then (some false) else (spec_YardOk.l0 k2 (wrap64 (x3_2 + 1)) l0_0 l0_1 l0_2 l0_3 a0_4)) = some r := H
               have A47 := Aside0.mk A470
               clear A470
               by_cases c48 : t162 ≥ 0
               ·rw [if_pos c48] at H
                have c48b0 : decide (0 ≤ t162) = true := decide_eq_true c48
                clear c48
                obtain rfl := Option.some.inj H
                obtain ⟨hcz49_0, hcz49_1, hcz49_2, hcz49_3, hcz49_4, hfz49_0, hfz49_1, hfz49_2, hfz49_3, hfz49_4⟩ := cs5_ BK148.out
                have p153 : 0 ≤ (x3_2 : Int) := of_decide_eq_true (by first | (with_reducible assumption) | assumption)
                have q153 : x3_2 < (l0_3.length : Int) := of_decide_eq_true (by first | (with_reducible assumption) | assumption)
                obtain ⟨ad153, e153, hx153_0, hx153_1⟩ := at_T41 HR0_3.out x3_2 p153 q153
                cases e153
                replace hx153_0 := (HB.out.cell (World.block_lt_of_cell? w _ hx153_0)).trans hx153_0
                replace hx153_1 := (HB.out.cell (World.block_lt_of_cell? w _ hx153_1)).trans hx153_1
                replace p153 := eq_true p153
                replace q153 := eq_true q153
                try go_wp2_with (first | ((with_reducible refine gate_dst (N := 4) rfl ?_); (try (refine gate_guard (by rfl) ?_; dsimp only)); refine box_event ?hg (N := 4) ?hd (cs := #[.int .i64 0, .int .i64 0]) (t := 41) ?hr ?_; (case hd => rfl); (case hg => rfl); (case hr => first | (go_simp; done) | (go_simp; rfl)); intro gb154 hg w50 hbox hb; have n0_ := Aside0.mk (blk_below (g := gb148) (o := .cells #[.slice A0_0 l0_0.length c0_0, .slice A0_1 l0_1.length c0_1, .slice A0_2 l0_2.length c0_2, .slice (some ad153) l0_3.length c0_3, .int .i64 a0_4] 30 (0, 0)) BK148.out hb); have n1_ := Aside0.mk (below_step (by repeat (first | (with_reducible first | exact HB.out | apply below_alloc | apply pw_below_drewN | apply below_drew1 | refine below_set ?_ GE148.out) | exact HB.out)) hb); have n2_ := Aside0.mk (hbox); have n3_ := Aside0.mk ((by rw [hg]; exact (below_size (by repeat (first | (with_reducible first | exact HB.out | apply below_alloc | apply pw_below_drewN | apply below_drew1 | refine below_set ?_ GE148.out) | exact HB.out))) : w.heap.size ≤ gb154)); have n4_ := n3_; have n5_ := Aside0.mk ((by rw [hg]; exact Nat.ne_of_lt (blk_lt (g := gb148) (o := .cells #[.slice A0_0 l0_0.length c0_0, .slice A0_1 l0_1.length c0_1, .slice A0_2 l0_2.length c0_2, .slice (some ad153) l0_3.length c0_3, .int .i64 a0_4] 30 (0, 0)) BK148.out) : gb148 ≠ gb154)); have n6_ := Aside0.mk ((by rw [hg]; exact Nat.ne_of_gt (blk_lt (g := gb148) (o := .cells #[.slice A0_0 l0_0.length c0_0, .slice A0_1 l0_1.length c0_1, .slice A0_2 l0_2.length c0_2, .slice (some ad153) l0_3.length c0_3, .int .i64 a0_4] 30 (0, 0)) BK148.out) : gb154 ≠ gb148)); replace BK148 := n0_; replace HB := n1_; have BK154 := n2_; have GW154 := n3_; have GE154 := n4_; have NB148_154 := n5_; have NB154_148 := n6_; clear n0_ n1_ n2_ n3_ n4_ n5_ n6_; clear hb hbox hg; have hnb51 := NB154_148.out; have hnc51 := NB148_154.out; obtain ⟨hcz52_0, hcz52_1, hfz52_0, hfz52_1⟩ := cs2_ BK154.out))
                have n0_ : Aside0 (((w50.setCell ⟨gb154, 0, none⟩ (.int .i64 ((rd_T41 l0_3 x3_2).f0))).setCell ⟨gb154, 1, none⟩ (.int .i64 ((rd_T41 l0_3 x3_2).f1))).heap[gb148]? = some (.cells #[.slice A0_0 l0_0.length c0_0, .slice A0_1 l0_1.length c0_1, .slice A0_2 l0_2.length c0_2, .slice (some ad153) l0_3.length c0_3, .int .i64 a0_4] 30 (0, 0))) := ⟨by (with_reducible repeat (first | refine blk_drewN ?_ _ | refine blk_drew ?_ | refine blk_alloc ?_ _)); refine blk_far ?_ NB148_154.out _; (with_reducible repeat (first | refine blk_drewN ?_ _ | refine blk_drew ?_ | refine blk_alloc ?_ _)); refine blk_far ?_ NB148_154.out _; (with_reducible repeat (first | refine blk_drewN ?_ _ | refine blk_drew ?_ | refine blk_alloc ?_ _)); exact BK148.out⟩
                have n1_ : Aside0 (((w50.setCell ⟨gb154, 0, none⟩ (.int .i64 ((rd_T41 l0_3 x3_2).f0))).setCell ⟨gb154, 1, none⟩ (.int .i64 ((rd_T41 l0_3 x3_2).f1))).heap[gb154]? = some (.cells #[.int .i64 ((rd_T41 l0_3 x3_2).f0), .int .i64 ((rd_T41 l0_3 x3_2).f1)] 41 (0, 0))) := ⟨by (with_reducible repeat (first | refine blk_drewN ?_ _ | refine blk_drew ?_ | refine blk_alloc ?_ _)); refine blk_put (cs := #[.int .i64 ((rd_T41 l0_3 x3_2).f0), .int .i64 0]) ?_ 1 _ rfl; (with_reducible repeat (first | refine blk_drewN ?_ _ | refine blk_drew ?_ | refine blk_alloc ?_ _)); refine blk_put (cs := #[.int .i64 0, .int .i64 0]) ?_ 0 _ rfl; (with_reducible repeat (first | refine blk_drewN ?_ _ | refine blk_drew ?_ | refine blk_alloc ?_ _)); exact BK154.out⟩
                have n2_ : Aside0 (Below w.heap.size w ((w50.setCell ⟨gb154, 0, none⟩ (.int .i64 ((rd_T41 l0_3 x3_2).f0))).setCell ⟨gb154, 1, none⟩ (.int .i64 ((rd_T41 l0_3 x3_2).f1)))) := ⟨by repeat (first | (with_reducible first | exact HB.out | apply below_alloc | apply pw_below_drewN | apply below_drew1 | refine below_set ?_ GE148.out | refine below_set ?_ GE154.out) | exact HB.out)⟩
                (try clear BK148)
                (try clear BK154)
                (try clear HB)
                generalize ((w50.setCell ⟨gb154, 0, none⟩ (.int .i64 ((rd_T41 l0_3 x3_2).f0))).setCell ⟨gb154, 1, none⟩ (.int .i64 ((rd_T41 l0_3 x3_2).f1))) = w53 at n0_ n1_ n2_ ⊢
                have BK148 := n0_
                have BK154 := n1_
                have HB := n2_
                clear n0_ n1_ n2_
                have n0_ := Aside0.mk (blk_drew BK148.out)
                have n1_ := Aside0.mk (blk_drew BK154.out)
                have n2_ := Aside0.mk (below_drew1 HB.out)
                clear BK148
                clear BK154
                clear HB
                have BK148 := n0_
                have BK154 := n1_
                have HB := n2_
                clear n0_ n1_ n2_
                have p157 : 0 ≤ ((ji34) : Int) := of_decide_eq_true (by first | (with_reducible assumption) | assumption)
                have q157 : (ji34) < (l0_3.length : Int) := of_decide_eq_true (by first | (with_reducible assumption) | assumption)
                obtain ⟨ad157, e157, hx157_0, hx157_1⟩ := at_T41 HR0_3.out (ji34) p157 q157
                have hw157_1 := hx157_1
                have hw157_0 := hx157_0
                obtain rfl : ad153 = ad157 := (by injection e157)
                replace hx157_0 := (HB.out.cell (World.block_lt_of_cell? w _ hx157_0)).trans hx157_0
                replace hx157_1 := (HB.out.cell (World.block_lt_of_cell? w _ hx157_1)).trans hx157_1
                replace p157 := eq_true p157
                replace q157 := eq_true q157
                refine start_ (n := 40) (S := fun w' => w'.cell? ⟨gb148, 0, none⟩ = some (.slice A0_0 l0_0.length c0_0) ∧ w'.cell? ⟨gb148, 1, none⟩ = some (.slice A0_1 l0_1.length c0_1) ∧ w'.cell? ⟨gb148, 2, none⟩ = some (.slice A0_2 l0_2.length c0_2) ∧ w'.cell? ⟨gb148, 3, none⟩ = some (.slice (some ad153) l0_3.length c0_3) ∧ w'.cell? ⟨gb148, 4, none⟩ = some (.int .i64 a0_4) ∧ w'.cell? ⟨gb154, 0, none⟩ = some (.int .i64 ((rd_T41 l0_3 x3_2).f0)) ∧ w'.cell? ⟨gb154, 1, none⟩ = some (.int .i64 ((rd_T41 l0_3 x3_2).f1)) ∧ w'.cell? (ad153.add (((ji34)).toNat * 2)) = some (.int .i64 ((rd_T41 l0_3 (ji34)).f0)) ∧ w'.cell? ⟨(ad153.add (((ji34)).toNat * 2)).block, (ad153.add (((ji34)).toNat * 2)).off + 1, none⟩ = some (.int .i64 ((rd_T41 l0_3 (ji34)).f1))) (ds := []) spec_YardOk.bt0_ (by kernel_rfl) rfl rfl ⟨(blk_cell BK148.out 0).trans rfl, (blk_cell BK148.out 1).trans rfl, (blk_cell BK148.out 2).trans rfl, (blk_cell BK148.out 3).trans rfl, (blk_cell BK148.out 4).trans rfl, (blk_cell BK154.out 0).trans rfl, (blk_cell BK154.out 1).trans rfl, ((HB.out.cell (World.block_lt_of_cell? w _ hw157_0)).trans hw157_0), ((HB.out.cell (World.block_lt_of_cell? w _ hw157_1)).trans hw157_1)⟩ (fun hHeld => ?_); refine with_tabW spec_YardOk.tab7 spec_YardOk.bits7 (fun HT_ HW_ => ?_)
                generalize w53.drew = w54 at BK148 BK154 HB hx157_0 hx157_1 hHeld ⊢
                refine pure_ (i := 0) (N := some 48) (v := ?_) (a' := ?_) spec_YardOk.bt1_ rfl rfl (any_of HT_.out (by kernel_rfl)) (fun _ _ _ h => h) (Or.inl ⟨by rfl, ?_⟩) ?_ ?_
                rotate_left
                ·intro w'
                 go_simp
                 with_reducible rfl
                rotate_left
                ·simp only [Act.put, sx_, sy_, sz_, i64_w, i32_w]
                 rfl
                refine pure_ (i := 2) (N := some 50) (v := ?_) (a' := ?_) spec_YardOk.bt2_ rfl rfl (any_of HT_.out (by kernel_rfl)) (fun _ _ _ h => h) (Or.inl ⟨by rfl, ?_⟩) ?_ ?_
                rotate_left
                ·intro w'
                 go_simp
                 with_reducible rfl
                rotate_left
                ·simp only [Act.put, sx_, sy_, sz_, i64_w, i32_w]
                 rfl
                refine take_ (i := 1) (N := some 49) (v := ?_) (a' := ?_) spec_YardOk.bt3_ rfl rfl (take_ofW HT_.out HW_.out (by kernel_rfl)) (fun _ _ _ h => h) (Or.inl ⟨by rfl, ?_⟩) hHeld ?_ ?_
                rotate_left
                ·rintro w' ⟨s0, s1, s2, s3, s4, s5, s6, s7, s8⟩
                 go_simp
                 with_reducible rfl
                rotate_left
                ·simp only [Act.put, sx_, sy_, sz_, i64_w, i32_w]
                 rfl
                refine take_ (i := 3) (N := some 51) (v := ?_) (a' := ?_) spec_YardOk.bt4_ rfl rfl (take_ofW HT_.out HW_.out (by kernel_rfl)) (fun _ _ _ h => h) (Or.inl ⟨by rfl, ?_⟩) hHeld ?_ ?_
                rotate_left
                ·rintro w' ⟨s0, s1, s2, s3, s4, s5, s6, s7, s8⟩
                 go_simp
                 with_reducible rfl
                rotate_left
                ·simp only [Act.put, sx_, sy_, sz_, i64_w, i32_w]
                 rfl
                refine one_ (i := 4) (N := some 52) spec_YardOk.bt5_ rfl rfl (one_of HT_.out (by kernel_rfl)) (by decide) (fun K hK => ?_)
                refine goes_ Try.func70 (by kernel_rfl) rfl #[.agg #[.slice A0_0 l0_0.length c0_0, .slice A0_1 l0_1.length c0_1], .int .i64 ((rd_T41 l0_3 x3_2).f0)] (by rfl) rfl rfl (by (try simp only [List.map_toArray, List.map_cons, List.map_nil]); first | done | rfl | (simp only [List.length_drop, List.length_take]; rfl)) ?_
                with_reducible refine (spec_Live.calls k2 _ _ l0_0 _ _ l0_1 ((rd_T41 l0_3 x3_2).f0) true _ ?side1 ?side2 ?side3 ?side4 A29.out).mono ?_
                (case side1 => exact (Kd.C_below HR0_0.out HB.out))
                (case side2 => exact HC0_0.out)
                (case side3 => exact (Kd.C_below HR0_1.out HB.out))
                (case side4 => exact HC0_1.out)
                rintro e w55 ⟨rfl, hb⟩
                refine ⟨_, rfl, ?_⟩
                have n0_ := Aside0.mk (blk_below (g := gb148) (o := .cells #[.slice A0_0 l0_0.length c0_0, .slice A0_1 l0_1.length c0_1, .slice A0_2 l0_2.length c0_2, .slice (some ad153) l0_3.length c0_3, .int .i64 a0_4] 30 (0, 0)) BK148.out hb)
                have n1_ := Aside0.mk (blk_below (g := gb154) (o := .cells #[.int .i64 ((rd_T41 l0_3 x3_2).f0), .int .i64 ((rd_T41 l0_3 x3_2).f1)] 41 (0, 0)) BK154.out hb)
                have n2_ := Aside0.mk (below_step (by repeat (first | (with_reducible first | exact HB.out | apply below_alloc | apply pw_below_drewN | apply below_drew1 | refine below_set ?_ GE148.out | refine below_set ?_ GE154.out) | exact HB.out)) hb)
                clear BK148
                clear BK154
                clear HB
                have BK148 := n0_
                have BK154 := n1_
                have HB := n2_
                clear n0_ n1_ n2_
                (try clear hb)
                (try clear hb2)
                (try clear hk)
                (try clear hi)
                refine hK.out _ _ ⟨(blk_cell BK148.out 0).trans rfl, (blk_cell BK148.out 1).trans rfl, (blk_cell BK148.out 2).trans rfl, (blk_cell BK148.out 3).trans rfl, (blk_cell BK148.out 4).trans rfl, (blk_cell BK154.out 0).trans rfl, (blk_cell BK154.out 1).trans rfl, ((HB.out.cell (World.block_lt_of_cell? w _ hw157_0)).trans hw157_0), ((HB.out.cell (World.block_lt_of_cell? w _ hw157_1)).trans hw157_1)⟩ (fun hHeld => ?_)
                clear hK K
                refine norm_ (a' := ?_) ?_ ?_
                rotate_left
                ·show Act.put _ (some 52) _ = _
                 simp only [Act.put, sx_, sy_, sz_, i64_w, i32_w]
                 rfl
                refine pure_ (i := 5) (N := some 53) (v := ?_) (a' := ?_) spec_YardOk.bt6_ rfl rfl (any_of HT_.out (by kernel_rfl)) (fun _ _ _ h => h) (Or.inl ⟨by rfl, ?_⟩) ?_ ?_
                rotate_left
                ·intro w'
                 go_simp
                 with_reducible rfl
                rotate_left
                ·simp only [Act.put, sx_, sy_, sz_, i64_w, i32_w]
                 rfl
                refine pure_ (i := 6) (N := some 54) (v := ?_) (a' := ?_) spec_YardOk.bt7_ rfl rfl (any_of HT_.out (by kernel_rfl)) (fun _ _ _ h => h) (Or.inl ⟨by rfl, ?_⟩) ?_ ?_
                rotate_left
                ·intro w'
                 go_simp
                 with_reducible rfl
                rotate_left
                ·simp only [Act.put, sx_, sy_, sz_, i64_w, i32_w]
                 rfl
                refine pure_ (i := 7) (N := some 55) (v := ?_) (a' := ?_) spec_YardOk.bt8_ rfl rfl (any_of HT_.out (by kernel_rfl)) (fun _ _ _ h => h) (Or.inl ⟨by rfl, ?_⟩) ?_ ?_
                rotate_left
                ·intro w'
                 go_simp
                 with_reducible rfl
                rotate_left
                ·simp only [Act.put, sx_, sy_, sz_, i64_w, i32_w]
                 rfl
                refine pure_ (i := 9) (N := some 57) (v := ?_) (a' := ?_) spec_YardOk.bt9_ rfl rfl (any_of HT_.out (by kernel_rfl)) (fun _ _ _ h => h) (Or.inl ⟨by rfl, ?_⟩) ?_ ?_
                rotate_left
                ·intro w'
                 go_simp
                 with_reducible rfl
                rotate_left
                ·simp only [Act.put, sx_, sy_, sz_, i64_w, i32_w]
                 rfl
                refine take_ (i := 8) (N := some 56) (v := ?_) (a' := ?_) spec_YardOk.bt10_ rfl rfl (take_ofW HT_.out HW_.out (by kernel_rfl)) (fun _ _ _ h => h) (Or.inl ⟨by rfl, ?_⟩) hHeld ?_ ?_
                rotate_left
                ·rintro w' ⟨s0, s1, s2, s3, s4, s5, s6, s7, s8⟩
                 go_simp
                 with_reducible rfl
                rotate_left
                ·simp only [Act.put, sx_, sy_, sz_, i64_w, i32_w]
                 rfl
                refine take_ (i := 10) (N := some 58) (v := ?_) (a' := ?_) spec_YardOk.bt11_ rfl rfl (take_ofW HT_.out HW_.out (by kernel_rfl)) (fun _ _ _ h => h) (Or.inl ⟨by rfl, ?_⟩) hHeld ?_ ?_
                rotate_left
                ·rintro w' ⟨s0, s1, s2, s3, s4, s5, s6, s7, s8⟩
                 go_simp
                 with_reducible rfl
                rotate_left
                ·simp only [Act.put, sx_, sy_, sz_, i64_w, i32_w]
                 rfl
                refine one_ (i := 11) (N := some 59) spec_YardOk.bt12_ rfl rfl (one_of HT_.out (by kernel_rfl)) (by decide) (fun K hK => ?_)
                refine goes_ Try.func55 (by kernel_rfl) rfl #[.int .i64 ((rd_T41 l0_3 x3_2).f1), .int .i64 0, .int .i64 a0_4] (by rfl) rfl rfl (by (try simp only [List.map_toArray, List.map_cons, List.map_nil]); first | done | rfl | (simp only [List.length_drop, List.length_take]; rfl)) ?_
                with_reducible refine (spec_l1In.calls ((rd_T41 l0_3 x3_2).f1) 0 a0_4 true _ A31.out).mono ?_
                rintro e w' ⟨rfl, ⟨nd, rfl⟩⟩
                refine ⟨_, rfl, ?_⟩
                have q56 : (x3_2 : Int) ≤ ((l0_3.length : Int) : Int) := of_decide_eq_true (by first | (with_reducible assumption) | assumption)
                obtain ⟨i056, hi056, _, hsz56, _⟩ := info_parts info41
                have hroom56 : l0_3.length ≤ c0_3 := HC0_3.out
                have hC56 : Kd.C k41 _ (some ad153) l0_3.length l0_3 := HR0_3.out
                have hcut56 := cut_to (P := Try.prog) 28 41 .i64 Try.underlying28 hi056 (some ad153) l0_3.length c0_3 x3_2 (of_decide_eq_true (by first | (with_reducible assumption) | assumption)) q56 hroom56
                have hr56 := Kd.C_take (m := (x3_2 : Int).toNat) hC56 (by omega)
                have hy56 : y158.length = (x3_2 : Int).toNat := (by rw [Ny158.out, List.length_take]; omega)
                rw [← Ny158.out] at hr56
                rw [← hy56] at hcut56
                have HR161 := Aside0.mk hr56
                have HC161 := Aside0.mk (show y158.length ≤ c0_3 from by omega)
                clear hr56 hC56 hroom56 hi056 hsz56
                have KY56 := Aside0.mk hy56
                clear hy56
                replace q56 := eq_true q56
                refine hK.out _ _ ⟨(blk_cell BK148.out 0).trans rfl, (blk_cell BK148.out 1).trans rfl, (blk_cell BK148.out 2).trans rfl, (blk_cell BK148.out 3).trans rfl, (blk_cell BK148.out 4).trans rfl, (blk_cell BK154.out 0).trans rfl, (blk_cell BK154.out 1).trans rfl, ((HB.out.cell (World.block_lt_of_cell? w _ hw157_0)).trans hw157_0), ((HB.out.cell (World.block_lt_of_cell? w _ hw157_1)).trans hw157_1)⟩ (fun hHeld => ?_)
                clear hK K
                refine norm_ (a' := ?_) ?_ ?_
                rotate_left
                ·show Act.put _ (some 59) _ = _
                 simp only [Act.put, sx_, sy_, sz_, i64_w, i32_w]
                 rfl
                refine pure_ (i := 12) (N := some 60) (v := ?_) (a' := ?_) spec_YardOk.bt13_ rfl rfl (any_of HT_.out (by kernel_rfl)) (fun _ _ _ h => h) (Or.inl ⟨by rfl, ?_⟩) ?_ ?_
                rotate_left
                ·intro w'
                 go_simp
                 with_reducible rfl
                rotate_left
                ·simp only [Act.put, sx_, sy_, sz_, i64_w, i32_w]
                 rfl
                refine pure_ (i := 13) (N := some 61) (v := ?_) (a' := ?_) spec_YardOk.bt14_ rfl rfl (any_of HT_.out (by kernel_rfl)) (fun _ _ _ h => h) (Or.inl ⟨by rfl, ?_⟩) ?_ ?_
                rotate_left
                ·intro w'
                 go_simp
                 with_reducible rfl
                rotate_left
                ·simp only [Act.put, sx_, sy_, sz_, i64_w, i32_w]
                 rfl
                refine pure_ (i := 14) (N := some 62) (v := ?_) (a' := ?_) spec_YardOk.bt15_ rfl rfl (any_of HT_.out (by kernel_rfl)) (fun _ _ _ h => h) (Or.inl ⟨by rfl, ?_⟩) ?_ ?_
                rotate_left
                ·intro w'
                 go_simp
                 with_reducible rfl
                rotate_left
                ·simp only [Act.put, sx_, sy_, sz_, i64_w, i32_w]
                 rfl
                refine pure_ (i := 15) (N := some 63) (v := ?_) (a' := ?_) spec_YardOk.bt16_ rfl rfl (any_of HT_.out (by kernel_rfl)) (fun _ _ _ h => h) (Or.inl ⟨by rfl, ?_⟩) ?_ ?_
                rotate_left
                ·intro w'
                 go_simp
                 with_reducible rfl
                rotate_left
                ·simp only [Act.put, sx_, sy_, sz_, i64_w, i32_w]
                 rfl
                refine pure_ (i := 16) (N := some 64) (v := ?_) (a' := ?_) spec_YardOk.bt17_ rfl rfl (any_of HT_.out (by kernel_rfl)) (fun _ _ _ h => h) (Or.inl ⟨by rfl, ?_⟩) ?_ ?_
                rotate_left
                ·intro w'
                 go_simp
                 with_reducible rfl
                rotate_left
                ·simp only [Act.put, sx_, sy_, sz_, i64_w, i32_w]
                 rfl
                refine pure_ (i := 17) (N := some 65) (v := ?_) (a' := ?_) spec_YardOk.bt18_ rfl rfl (any_of HT_.out (by kernel_rfl)) (fun _ _ _ h => h) (Or.inl ⟨by rfl, ?_⟩) ?_ ?_
                rotate_left
                ·intro w'
                 go_simp
                 with_reducible rfl
                rotate_left
                ·simp only [Act.put, sx_, sy_, sz_, i64_w, i32_w]
                 rfl
                refine pure_ (i := 18) (N := some 66) (v := ?_) (a' := ?_) spec_YardOk.bt19_ rfl rfl (any_of HT_.out (by kernel_rfl)) (fun _ _ _ h => h) (Or.inl ⟨by rfl, ?_⟩) ?_ ?_
                rotate_left
                ·intro w'
                 go_simp
                 with_reducible rfl
                rotate_left
                ·simp only [Act.put, sx_, sy_, sz_, i64_w, i32_w]
                 rfl
                refine pure_ (i := 20) (N := some 68) (v := ?_) (a' := ?_) spec_YardOk.bt20_ rfl rfl (any_of HT_.out (by kernel_rfl)) (fun _ _ _ h => h) (Or.inl ⟨by rfl, ?_⟩) ?_ ?_
                rotate_left
                ·intro w'
                 go_simp
                 with_reducible rfl
                rotate_left
                ·simp only [Act.put, sx_, sy_, sz_, i64_w, i32_w]
                 rfl
                refine pure_ (i := 21) (N := some 69) (v := ?_) (a' := ?_) spec_YardOk.bt21_ rfl rfl (any_of HT_.out (by kernel_rfl)) (fun _ _ _ h => h) (Or.inl ⟨by rfl, ?_⟩) ?_ ?_
                rotate_left
                ·intro w'
                 go_simp
                 with_reducible rfl
                rotate_left
                ·simp only [Act.put, sx_, sy_, sz_, i64_w, i32_w]
                 rfl
                refine pure_ (i := 25) (N := some 73) (v := ?_) (a' := ?_) spec_YardOk.bt22_ rfl rfl (any_of HT_.out (by kernel_rfl)) (fun _ _ _ h => h) (Or.inl ⟨by rfl, ?_⟩) ?_ ?_
                rotate_left
                ·intro w'
                 go_simp
                 with_reducible rfl
                rotate_left
                ·simp only [Act.put, sx_, sy_, sz_, i64_w, i32_w]
                 rfl
                refine take_ (i := 19) (N := some 67) (v := ?_) (a' := ?_) spec_YardOk.bt23_ rfl rfl (take_ofW HT_.out HW_.out (by kernel_rfl)) (fun _ _ _ h => h) (Or.inl ⟨by rfl, ?_⟩) hHeld ?_ ?_
                rotate_left
                ·rintro w' ⟨s0, s1, s2, s3, s4, s5, s6, s7, s8⟩
                 go_simp
                 with_reducible rfl
                rotate_left
                ·simp only [Act.put, sx_, sy_, sz_, i64_w, i32_w]
                 rfl
                refine pure_ (i := 22) (N := some 70) (v := ?_) (a' := ?_) spec_YardOk.bt24_ rfl rfl (any_of HT_.out (by kernel_rfl)) (fun _ _ _ h => h) (Or.inl ⟨by rfl, ?_⟩) ?_ ?_
                rotate_left
                ·intro w'
                 go_simp
                 with_reducible rfl
                rotate_left
                ·simp only [Act.put, sx_, sy_, sz_, i64_w, i32_w]
                 rfl
                refine pure_ (i := 23) (N := some 71) (v := ?_) (a' := ?_) spec_YardOk.bt25_ rfl rfl (any_of HT_.out (by kernel_rfl)) (fun _ _ _ h => h) (Or.inl ⟨by rfl, ?_⟩) ?_ ?_
                rotate_left
                ·intro w'
                 go_simp
                 with_reducible rfl
                rotate_left
                ·simp only [Act.put, sx_, sy_, sz_, i64_w, i32_w]
                 rfl
                refine take_ (i := 24) (N := some 72) (v := ?_) (a' := ?_) spec_YardOk.bt26_ rfl rfl (take_ofW HT_.out HW_.out (by kernel_rfl)) (fun _ _ _ h => h) (Or.inl ⟨by rfl, ?_⟩) hHeld ?_ ?_
                rotate_left
                ·rintro w' ⟨s0, s1, s2, s3, s4, s5, s6, s7, s8⟩
                 go_simp
                 with_reducible rfl
                rotate_left
                ·simp only [Act.put, sx_, sy_, sz_, i64_w, i32_w]
                 rfl
                refine take_ (i := 26) (N := some 74) (v := ?_) (a' := ?_) spec_YardOk.bt27_ rfl rfl (take_ofW HT_.out HW_.out (by kernel_rfl)) (fun _ _ _ h => h) (Or.inl ⟨by rfl, ?_⟩) hHeld ?_ ?_
                rotate_left
                ·rintro w' ⟨s0, s1, s2, s3, s4, s5, s6, s7, s8⟩
                 go_simp
                 with_reducible rfl
                rotate_left
                ·simp only [Act.put, sx_, sy_, sz_, i64_w, i32_w]
                 rfl
                refine pure_ (i := 27) (N := some 75) (v := ?_) (a' := ?_) spec_YardOk.bt28_ rfl rfl (any_of HT_.out (by kernel_rfl)) (fun _ _ _ h => h) (Or.inl ⟨by rfl, ?_⟩) ?_ ?_
                rotate_left
                ·intro w'
                 go_simp
                 with_reducible rfl
                rotate_left
                ·simp only [Act.put, sx_, sy_, sz_, i64_w, i32_w]
                 rfl
                refine pure_ (i := 28) (N := some 76) (v := ?_) (a' := ?_) spec_YardOk.bt29_ rfl rfl (any_of HT_.out (by kernel_rfl)) (fun _ _ _ h => h) (Or.inl ⟨by rfl, ?_⟩) ?_ ?_
                rotate_left
                ·intro w'
                 go_simp
                 with_reducible rfl
                rotate_left
                ·simp only [Act.put, sx_, sy_, sz_, i64_w, i32_w]
                 rfl
                refine pure_ (i := 29) (N := some 77) (v := ?_) (a' := ?_) spec_YardOk.bt30_ rfl rfl (any_of HT_.out (by kernel_rfl)) (fun _ _ _ h => h) (Or.inl ⟨by rfl, ?_⟩) ?_ ?_
                rotate_left
                ·intro w'
                 go_simp
                 with_reducible rfl
                rotate_left
                ·simp only [Act.put, sx_, sy_, sz_, i64_w, i32_w]
                 rfl
                refine pure_ (i := 30) (N := some 78) (v := ?_) (a' := ?_) spec_YardOk.bt31_ rfl rfl (any_of HT_.out (by kernel_rfl)) (fun _ _ _ h => h) (Or.inl ⟨by rfl, ?_⟩) ?_ ?_
                rotate_left
                ·intro w'
                 go_simp
                 with_reducible rfl
                rotate_left
                ·simp only [Act.put, sx_, sy_, sz_, i64_w, i32_w]
                 rfl
                refine pure_ (i := 31) (N := some 79) (v := ?_) (a' := ?_) spec_YardOk.bt32_ rfl rfl (any_of HT_.out (by kernel_rfl)) (fun _ _ _ h => h) (Or.inl ⟨by rfl, ?_⟩) ?_ ?_
                rotate_left
                ·intro w'
                 go_simp
                 with_reducible rfl
                rotate_left
                ·simp only [Act.put, sx_, sy_, sz_, i64_w, i32_w]
                 rfl
                refine pure_ (i := 33) (N := some 81) (v := ?_) (a' := ?_) spec_YardOk.bt41_ rfl rfl (any_of HT_.out (by kernel_rfl)) (fun _ _ _ h => h) (Or.inl ⟨by rfl, ?_⟩) ?_ ?_
                rotate_left
                ·intro w'
                 go_simp
                 with_reducible rfl
                rotate_left
                ·simp only [Act.put, sx_, sy_, sz_, i64_w, i32_w]
                 rfl
                refine pure_ (i := 35) (N := some 83) (v := ?_) (a' := ?_) spec_YardOk.bt42_ rfl rfl (any_of HT_.out (by kernel_rfl)) (fun _ _ _ h => h) (Or.inl ⟨by rfl, ?_⟩) ?_ ?_
                rotate_left
                ·intro w'
                 go_simp
                 with_reducible rfl
                rotate_left
                ·simp only [Act.put, sx_, sy_, sz_, i64_w, i32_w]
                 rfl
                refine take_ (i := 32) (N := some 80) (v := ?_) (a' := ?_) spec_YardOk.bt43_ rfl rfl (take_ofW HT_.out HW_.out (by kernel_rfl)) (fun _ _ _ h => h) (Or.inl ⟨by rfl, ?_⟩) hHeld ?_ ?_
                rotate_left
                ·rintro w' ⟨s0, s1, s2, s3, s4, s5, s6, s7, s8⟩
                 go_simp
                 with_reducible rfl
                rotate_left
                ·simp only [Act.put, sx_, sy_, sz_, i64_w, i32_w]
                 rfl
                refine pure_ (i := 34) (N := some 82) (v := ?_) (a' := ?_) spec_YardOk.bt36_ rfl rfl (any_of HT_.out (by kernel_rfl)) (fun _ _ _ h => h) (Or.inl ⟨by rfl, ?_⟩) ?_ ?_
                rotate_left
                ·intro w'
                 go_simp
                 with_reducible rfl
                rotate_left
                ·simp only [Act.put, sx_, sy_, sz_, i64_w, i32_w]
                 rfl
                refine take_ (i := 36) (N := some 84) (v := ?_) (a' := ?_) spec_YardOk.bt37_ rfl rfl (take_ofW HT_.out HW_.out (by kernel_rfl)) (fun _ _ _ h => h) (Or.inl ⟨by rfl, ?_⟩) hHeld ?_ ?_
                rotate_left
                ·rintro w' ⟨s0, s1, s2, s3, s4, s5, s6, s7, s8⟩
                 go_simp
                 with_reducible rfl
                rotate_left
                ·simp only [Act.put, sx_, sy_, sz_, i64_w, i32_w]
                 rfl
                refine one_ (i := 37) (N := some 85) spec_YardOk.bt38_ rfl rfl (one_of HT_.out (by kernel_rfl)) (by decide) (fun K hK => ?_)
                refine goes_ Try.func71 (by kernel_rfl) rfl #[.slice (some ad153) y158.length c0_3, .int .i64 ((rd_T41 l0_3 x3_2).f0)] (by rfl) rfl rfl (by (try simp only [List.map_toArray, List.map_cons, List.map_nil]); first | done | rfl | (simp only [List.length_drop, List.length_take]; rfl)) ?_
                with_reducible refine (spec_l3Find.calls k2 _ _ y158 ((rd_T41 l0_3 x3_2).f0) t162 _ ?side1 ?side2 A47.out).mono ?_
                (case side1 => repeat (first | exact (Kd.C_below HR161.out (by repeat (first | (with_reducible first | exact HB.out | apply below_alloc | apply pw_below_drewN | apply below_drew1 | refine below_set ?_ GE148.out | refine below_set ?_ GE154.out) | exact HB.out))) | (with_reducible refine Kd.C_alloc ?_ _) | (with_reducible refine Kd.C_drewN ?_ _) | (with_reducible refine Kd.C_drew ?_)))
                (case side2 => exact HC161.out)
                rintro e w' ⟨rfl, ⟨nd, rfl⟩⟩
                refine ⟨_, rfl, ?_⟩
                refine hK.out _ _ ⟨(blk_cell BK148.out 0).trans rfl, (blk_cell BK148.out 1).trans rfl, (blk_cell BK148.out 2).trans rfl, (blk_cell BK148.out 3).trans rfl, (blk_cell BK148.out 4).trans rfl, (blk_cell BK154.out 0).trans rfl, (blk_cell BK154.out 1).trans rfl, ((HB.out.cell (World.block_lt_of_cell? w _ hw157_0)).trans hw157_0), ((HB.out.cell (World.block_lt_of_cell? w _ hw157_1)).trans hw157_1)⟩ (fun hHeld => ?_)
                clear hK K
                refine norm_ (a' := ?_) ?_ ?_
                rotate_left
                ·show Act.put _ (some 85) _ = _
                 simp only [Act.put, sx_, sy_, sz_, i64_w, i32_w]
                 rfl
                refine pure_ (i := 38) (N := some 86) (v := ?_) (a' := ?_) spec_YardOk.bt39_ rfl rfl (any_of HT_.out (by kernel_rfl)) (fun _ _ _ h => h) (Or.inl ⟨by rfl, ?_⟩) ?_ ?_
                rotate_left
                ·intro w'
                 go_simp
                 with_reducible rfl
                rotate_left
                ·simp only [Act.put, sx_, sy_, sz_, i64_w, i32_w]
                 rfl
                refine pure_ (i := 39) (N := some 87) (v := ?_) (a' := ?_) spec_YardOk.bt40_ rfl rfl (any_of HT_.out (by kernel_rfl)) (fun _ _ _ h => h) (Or.inl ⟨by rfl, ?_⟩) ?_ ?_
                rotate_left
                ·intro w'
                 go_simp
                 with_reducible rfl
                rotate_left
                ·simp only [Act.put, sx_, sy_, sz_, i64_w, i32_w]
                 rfl
                refine done_ (done_of HT_.out (by kernel_rfl)) ?_
                try go_wp2
                go_ret
                exact ⟨by first | rfl | (simp [errW_none, errW_some] <;> rfl) | (simp only [← hji34]; first | rfl | (simp [errW_none, errW_some] <;> rfl)) | (simp [*, errW_none, errW_some] <;> rfl), by repeat (first | (with_reducible first | exact HB.out | apply below_alloc | apply pw_below_drewN | apply below_drew1 | refine below_set ?_ GE148.out | refine below_set ?_ GE154.out) | exact HB.out)⟩
               ·rw [if_neg c48] at H
                have c48b0 : decide (0 ≤ t162) = false := decide_eq_false c48
                clear c48
                have H' := Aside0.mk H
                clear H
                obtain ⟨hcz57_0, hcz57_1, hcz57_2, hcz57_3, hcz57_4, hfz57_0, hfz57_1, hfz57_2, hfz57_3, hfz57_4⟩ := cs5_ BK148.out
                have p153 : 0 ≤ (x3_2 : Int) := of_decide_eq_true (by first | (with_reducible assumption) | assumption)
                have q153 : x3_2 < (l0_3.length : Int) := of_decide_eq_true (by first | (with_reducible assumption) | assumption)
                obtain ⟨ad153, e153, hx153_0, hx153_1⟩ := at_T41 HR0_3.out x3_2 p153 q153
                cases e153
                replace hx153_0 := (HB.out.cell (World.block_lt_of_cell? w _ hx153_0)).trans hx153_0
                replace hx153_1 := (HB.out.cell (World.block_lt_of_cell? w _ hx153_1)).trans hx153_1
                replace p153 := eq_true p153
                replace q153 := eq_true q153
                try go_wp2_with (first | ((with_reducible refine gate_dst (N := 4) rfl ?_); (try (refine gate_guard (by rfl) ?_; dsimp only)); refine box_event ?hg (N := 4) ?hd (cs := #[.int .i64 0, .int .i64 0]) (t := 41) ?hr ?_; (case hd => rfl); (case hg => rfl); (case hr => first | (go_simp; done) | (go_simp; rfl)); intro gb154 hg w58 hbox hb; have n0_ := Aside0.mk (blk_below (g := gb148) (o := .cells #[.slice A0_0 l0_0.length c0_0, .slice A0_1 l0_1.length c0_1, .slice A0_2 l0_2.length c0_2, .slice (some ad153) l0_3.length c0_3, .int .i64 a0_4] 30 (0, 0)) BK148.out hb); have n1_ := Aside0.mk (below_step (by repeat (first | (with_reducible first | exact HB.out | apply below_alloc | apply pw_below_drewN | apply below_drew1 | refine below_set ?_ GE148.out) | exact HB.out)) hb); have n2_ := Aside0.mk (hbox); have n3_ := Aside0.mk ((by rw [hg]; exact (below_size (by repeat (first | (with_reducible first | exact HB.out | apply below_alloc | apply pw_below_drewN | apply below_drew1 | refine below_set ?_ GE148.out) | exact HB.out))) : w.heap.size ≤ gb154)); have n4_ := n3_; have n5_ := Aside0.mk ((by rw [hg]; exact Nat.ne_of_lt (blk_lt (g := gb148) (o := .cells #[.slice A0_0 l0_0.length c0_0, .slice A0_1 l0_1.length c0_1, .slice A0_2 l0_2.length c0_2, .slice (some ad153) l0_3.length c0_3, .int .i64 a0_4] 30 (0, 0)) BK148.out) : gb148 ≠ gb154)); have n6_ := Aside0.mk ((by rw [hg]; exact Nat.ne_of_gt (blk_lt (g := gb148) (o := .cells #[.slice A0_0 l0_0.length c0_0, .slice A0_1 l0_1.length c0_1, .slice A0_2 l0_2.length c0_2, .slice (some ad153) l0_3.length c0_3, .int .i64 a0_4] 30 (0, 0)) BK148.out) : gb154 ≠ gb148)); replace BK148 := n0_; replace HB := n1_; have BK154 := n2_; have GW154 := n3_; have GE154 := n4_; have NB148_154 := n5_; have NB154_148 := n6_; clear n0_ n1_ n2_ n3_ n4_ n5_ n6_; clear hb hbox hg; have hnb59 := NB154_148.out; have hnc59 := NB148_154.out; obtain ⟨hcz60_0, hcz60_1, hfz60_0, hfz60_1⟩ := cs2_ BK154.out))
                have n0_ : Aside0 (((w58.setCell ⟨gb154, 0, none⟩ (.int .i64 ((rd_T41 l0_3 x3_2).f0))).setCell ⟨gb154, 1, none⟩ (.int .i64 ((rd_T41 l0_3 x3_2).f1))).heap[gb148]? = some (.cells #[.slice A0_0 l0_0.length c0_0, .slice A0_1 l0_1.length c0_1, .slice A0_2 l0_2.length c0_2, .slice (some ad153) l0_3.length c0_3, .int .i64 a0_4] 30 (0, 0))) := ⟨by (with_reducible repeat (first | refine blk_drewN ?_ _ | refine blk_drew ?_ | refine blk_alloc ?_ _)); refine blk_far ?_ NB148_154.out _; (with_reducible repeat (first | refine blk_drewN ?_ _ | refine blk_drew ?_ | refine blk_alloc ?_ _)); refine blk_far ?_ NB148_154.out _; (with_reducible repeat (first | refine blk_drewN ?_ _ | refine blk_drew ?_ | refine blk_alloc ?_ _)); exact BK148.out⟩
                have n1_ : Aside0 (((w58.setCell ⟨gb154, 0, none⟩ (.int .i64 ((rd_T41 l0_3 x3_2).f0))).setCell ⟨gb154, 1, none⟩ (.int .i64 ((rd_T41 l0_3 x3_2).f1))).heap[gb154]? = some (.cells #[.int .i64 ((rd_T41 l0_3 x3_2).f0), .int .i64 ((rd_T41 l0_3 x3_2).f1)] 41 (0, 0))) := ⟨by (with_reducible repeat (first | refine blk_drewN ?_ _ | refine blk_drew ?_ | refine blk_alloc ?_ _)); refine blk_put (cs := #[.int .i64 ((rd_T41 l0_3 x3_2).f0), .int .i64 0]) ?_ 1 _ rfl; (with_reducible repeat (first | refine blk_drewN ?_ _ | refine blk_drew ?_ | refine blk_alloc ?_ _)); refine blk_put (cs := #[.int .i64 0, .int .i64 0]) ?_ 0 _ rfl; (with_reducible repeat (first | refine blk_drewN ?_ _ | refine blk_drew ?_ | refine blk_alloc ?_ _)); exact BK154.out⟩
                have n2_ : Aside0 (Below w.heap.size w ((w58.setCell ⟨gb154, 0, none⟩ (.int .i64 ((rd_T41 l0_3 x3_2).f0))).setCell ⟨gb154, 1, none⟩ (.int .i64 ((rd_T41 l0_3 x3_2).f1)))) := ⟨by repeat (first | (with_reducible first | exact HB.out | apply below_alloc | apply pw_below_drewN | apply below_drew1 | refine below_set ?_ GE148.out | refine below_set ?_ GE154.out) | exact HB.out)⟩
                (try clear BK148)
                (try clear BK154)
                (try clear HB)
                generalize ((w58.setCell ⟨gb154, 0, none⟩ (.int .i64 ((rd_T41 l0_3 x3_2).f0))).setCell ⟨gb154, 1, none⟩ (.int .i64 ((rd_T41 l0_3 x3_2).f1))) = w61 at n0_ n1_ n2_ ⊢
                have BK148 := n0_
                have BK154 := n1_
                have HB := n2_
                clear n0_ n1_ n2_
                have n0_ := Aside0.mk (blk_drew BK148.out)
                have n1_ := Aside0.mk (blk_drew BK154.out)
                have n2_ := Aside0.mk (below_drew1 HB.out)
                clear BK148
                clear BK154
                clear HB
                have BK148 := n0_
                have BK154 := n1_
                have HB := n2_
                clear n0_ n1_ n2_
                have p157 : 0 ≤ ((ji34) : Int) := of_decide_eq_true (by first | (with_reducible assumption) | assumption)
                have q157 : (ji34) < (l0_3.length : Int) := of_decide_eq_true (by first | (with_reducible assumption) | assumption)
                obtain ⟨ad157, e157, hx157_0, hx157_1⟩ := at_T41 HR0_3.out (ji34) p157 q157
                have hw157_1 := hx157_1
                have hw157_0 := hx157_0
                obtain rfl : ad153 = ad157 := (by injection e157)
                replace hx157_0 := (HB.out.cell (World.block_lt_of_cell? w _ hx157_0)).trans hx157_0
                replace hx157_1 := (HB.out.cell (World.block_lt_of_cell? w _ hx157_1)).trans hx157_1
                replace p157 := eq_true p157
                replace q157 := eq_true q157
                refine start_ (n := 40) (S := fun w' => w'.cell? ⟨gb148, 0, none⟩ = some (.slice A0_0 l0_0.length c0_0) ∧ w'.cell? ⟨gb148, 1, none⟩ = some (.slice A0_1 l0_1.length c0_1) ∧ w'.cell? ⟨gb148, 2, none⟩ = some (.slice A0_2 l0_2.length c0_2) ∧ w'.cell? ⟨gb148, 3, none⟩ = some (.slice (some ad153) l0_3.length c0_3) ∧ w'.cell? ⟨gb148, 4, none⟩ = some (.int .i64 a0_4) ∧ w'.cell? ⟨gb154, 0, none⟩ = some (.int .i64 ((rd_T41 l0_3 x3_2).f0)) ∧ w'.cell? ⟨gb154, 1, none⟩ = some (.int .i64 ((rd_T41 l0_3 x3_2).f1)) ∧ w'.cell? (ad153.add (((ji34)).toNat * 2)) = some (.int .i64 ((rd_T41 l0_3 (ji34)).f0)) ∧ w'.cell? ⟨(ad153.add (((ji34)).toNat * 2)).block, (ad153.add (((ji34)).toNat * 2)).off + 1, none⟩ = some (.int .i64 ((rd_T41 l0_3 (ji34)).f1))) (ds := []) spec_YardOk.bt0_ (by kernel_rfl) rfl rfl ⟨(blk_cell BK148.out 0).trans rfl, (blk_cell BK148.out 1).trans rfl, (blk_cell BK148.out 2).trans rfl, (blk_cell BK148.out 3).trans rfl, (blk_cell BK148.out 4).trans rfl, (blk_cell BK154.out 0).trans rfl, (blk_cell BK154.out 1).trans rfl, ((HB.out.cell (World.block_lt_of_cell? w _ hw157_0)).trans hw157_0), ((HB.out.cell (World.block_lt_of_cell? w _ hw157_1)).trans hw157_1)⟩ (fun hHeld => ?_); refine with_tabW spec_YardOk.tab7 spec_YardOk.bits7 (fun HT_ HW_ => ?_)
                generalize w61.drew = w62 at BK148 BK154 HB hx157_0 hx157_1 hHeld ⊢
                refine pure_ (i := 0) (N := some 48) (v := ?_) (a' := ?_) spec_YardOk.bt1_ rfl rfl (any_of HT_.out (by kernel_rfl)) (fun _ _ _ h => h) (Or.inl ⟨by rfl, ?_⟩) ?_ ?_
                rotate_left
                ·intro w'
                 go_simp
                 with_reducible rfl
                rotate_left
                ·simp only [Act.put, sx_, sy_, sz_, i64_w, i32_w]
                 rfl
                refine pure_ (i := 2) (N := some 50) (v := ?_) (a' := ?_) spec_YardOk.bt2_ rfl rfl (any_of HT_.out (by kernel_rfl)) (fun _ _ _ h => h) (Or.inl ⟨by rfl, ?_⟩) ?_ ?_
                rotate_left
                ·intro w'
                 go_simp
                 with_reducible rfl
                rotate_left
                ·simp only [Act.put, sx_, sy_, sz_, i64_w, i32_w]
                 rfl
                refine take_ (i := 1) (N := some 49) (v := ?_) (a' := ?_) spec_YardOk.bt3_ rfl rfl (take_ofW HT_.out HW_.out (by kernel_rfl)) (fun _ _ _ h => h) (Or.inl ⟨by rfl, ?_⟩) hHeld ?_ ?_
                rotate_left
                ·rintro w' ⟨s0, s1, s2, s3, s4, s5, s6, s7, s8⟩
                 go_simp
                 with_reducible rfl
                rotate_left
                ·simp only [Act.put, sx_, sy_, sz_, i64_w, i32_w]
                 rfl
                refine take_ (i := 3) (N := some 51) (v := ?_) (a' := ?_) spec_YardOk.bt4_ rfl rfl (take_ofW HT_.out HW_.out (by kernel_rfl)) (fun _ _ _ h => h) (Or.inl ⟨by rfl, ?_⟩) hHeld ?_ ?_
                rotate_left
                ·rintro w' ⟨s0, s1, s2, s3, s4, s5, s6, s7, s8⟩
                 go_simp
                 with_reducible rfl
                rotate_left
                ·simp only [Act.put, sx_, sy_, sz_, i64_w, i32_w]
                 rfl
                refine one_ (i := 4) (N := some 52) spec_YardOk.bt5_ rfl rfl (one_of HT_.out (by kernel_rfl)) (by decide) (fun K hK => ?_)
                refine goes_ Try.func70 (by kernel_rfl) rfl #[.agg #[.slice A0_0 l0_0.length c0_0, .slice A0_1 l0_1.length c0_1], .int .i64 ((rd_T41 l0_3 x3_2).f0)] (by rfl) rfl rfl (by (try simp only [List.map_toArray, List.map_cons, List.map_nil]); first | done | rfl | (simp only [List.length_drop, List.length_take]; rfl)) ?_
                with_reducible refine (spec_Live.calls k2 _ _ l0_0 _ _ l0_1 ((rd_T41 l0_3 x3_2).f0) true _ ?side1 ?side2 ?side3 ?side4 A29.out).mono ?_
                (case side1 => exact (Kd.C_below HR0_0.out HB.out))
                (case side2 => exact HC0_0.out)
                (case side3 => exact (Kd.C_below HR0_1.out HB.out))
                (case side4 => exact HC0_1.out)
                rintro e w63 ⟨rfl, hb⟩
                refine ⟨_, rfl, ?_⟩
                have n0_ := Aside0.mk (blk_below (g := gb148) (o := .cells #[.slice A0_0 l0_0.length c0_0, .slice A0_1 l0_1.length c0_1, .slice A0_2 l0_2.length c0_2, .slice (some ad153) l0_3.length c0_3, .int .i64 a0_4] 30 (0, 0)) BK148.out hb)
                have n1_ := Aside0.mk (blk_below (g := gb154) (o := .cells #[.int .i64 ((rd_T41 l0_3 x3_2).f0), .int .i64 ((rd_T41 l0_3 x3_2).f1)] 41 (0, 0)) BK154.out hb)
                have n2_ := Aside0.mk (below_step (by repeat (first | (with_reducible first | exact HB.out | apply below_alloc | apply pw_below_drewN | apply below_drew1 | refine below_set ?_ GE148.out | refine below_set ?_ GE154.out) | exact HB.out)) hb)
                clear BK148
                clear BK154
                clear HB
                have BK148 := n0_
                have BK154 := n1_
                have HB := n2_
                clear n0_ n1_ n2_
                (try clear hb)
                (try clear hb2)
                (try clear hk)
                (try clear hi)
                refine hK.out _ _ ⟨(blk_cell BK148.out 0).trans rfl, (blk_cell BK148.out 1).trans rfl, (blk_cell BK148.out 2).trans rfl, (blk_cell BK148.out 3).trans rfl, (blk_cell BK148.out 4).trans rfl, (blk_cell BK154.out 0).trans rfl, (blk_cell BK154.out 1).trans rfl, ((HB.out.cell (World.block_lt_of_cell? w _ hw157_0)).trans hw157_0), ((HB.out.cell (World.block_lt_of_cell? w _ hw157_1)).trans hw157_1)⟩ (fun hHeld => ?_)
                clear hK K
                refine norm_ (a' := ?_) ?_ ?_
                rotate_left
                ·show Act.put _ (some 52) _ = _
                 simp only [Act.put, sx_, sy_, sz_, i64_w, i32_w]
                 rfl
                refine pure_ (i := 5) (N := some 53) (v := ?_) (a' := ?_) spec_YardOk.bt6_ rfl rfl (any_of HT_.out (by kernel_rfl)) (fun _ _ _ h => h) (Or.inl ⟨by rfl, ?_⟩) ?_ ?_
                rotate_left
                ·intro w'
                 go_simp
                 with_reducible rfl
                rotate_left
                ·simp only [Act.put, sx_, sy_, sz_, i64_w, i32_w]
                 rfl
                refine pure_ (i := 6) (N := some 54) (v := ?_) (a' := ?_) spec_YardOk.bt7_ rfl rfl (any_of HT_.out (by kernel_rfl)) (fun _ _ _ h => h) (Or.inl ⟨by rfl, ?_⟩) ?_ ?_
                rotate_left
                ·intro w'
                 go_simp
                 with_reducible rfl
                rotate_left
                ·simp only [Act.put, sx_, sy_, sz_, i64_w, i32_w]
                 rfl
                refine pure_ (i := 7) (N := some 55) (v := ?_) (a' := ?_) spec_YardOk.bt8_ rfl rfl (any_of HT_.out (by kernel_rfl)) (fun _ _ _ h => h) (Or.inl ⟨by rfl, ?_⟩) ?_ ?_
                rotate_left
                ·intro w'
                 go_simp
                 with_reducible rfl
                rotate_left
                ·simp only [Act.put, sx_, sy_, sz_, i64_w, i32_w]
                 rfl
                refine pure_ (i := 9) (N := some 57) (v := ?_) (a' := ?_) spec_YardOk.bt9_ rfl rfl (any_of HT_.out (by kernel_rfl)) (fun _ _ _ h => h) (Or.inl ⟨by rfl, ?_⟩) ?_ ?_
                rotate_left
                ·intro w'
                 go_simp
                 with_reducible rfl
                rotate_left
                ·simp only [Act.put, sx_, sy_, sz_, i64_w, i32_w]
                 rfl
                refine take_ (i := 8) (N := some 56) (v := ?_) (a' := ?_) spec_YardOk.bt10_ rfl rfl (take_ofW HT_.out HW_.out (by kernel_rfl)) (fun _ _ _ h => h) (Or.inl ⟨by rfl, ?_⟩) hHeld ?_ ?_
                rotate_left
                ·rintro w' ⟨s0, s1, s2, s3, s4, s5, s6, s7, s8⟩
                 go_simp
                 with_reducible rfl
                rotate_left
                ·simp only [Act.put, sx_, sy_, sz_, i64_w, i32_w]
                 rfl
                refine take_ (i := 10) (N := some 58) (v := ?_) (a' := ?_) spec_YardOk.bt11_ rfl rfl (take_ofW HT_.out HW_.out (by kernel_rfl)) (fun _ _ _ h => h) (Or.inl ⟨by rfl, ?_⟩) hHeld ?_ ?_
                rotate_left
                ·rintro w' ⟨s0, s1, s2, s3, s4, s5, s6, s7, s8⟩
                 go_simp
                 with_reducible rfl
                rotate_left
                ·simp only [Act.put, sx_, sy_, sz_, i64_w, i32_w]
                 rfl
                refine one_ (i := 11) (N := some 59) spec_YardOk.bt12_ rfl rfl (one_of HT_.out (by kernel_rfl)) (by decide) (fun K hK => ?_)
                refine goes_ Try.func55 (by kernel_rfl) rfl #[.int .i64 ((rd_T41 l0_3 x3_2).f1), .int .i64 0, .int .i64 a0_4] (by rfl) rfl rfl (by (try simp only [List.map_toArray, List.map_cons, List.map_nil]); first | done | rfl | (simp only [List.length_drop, List.length_take]; rfl)) ?_
                with_reducible refine (spec_l1In.calls ((rd_T41 l0_3 x3_2).f1) 0 a0_4 true _ A31.out).mono ?_
                rintro e w' ⟨rfl, ⟨nd, rfl⟩⟩
                refine ⟨_, rfl, ?_⟩
                have q64 : (x3_2 : Int) ≤ ((l0_3.length : Int) : Int) := of_decide_eq_true (by first | (with_reducible assumption) | assumption)
                obtain ⟨i064, hi064, _, hsz64, _⟩ := info_parts info41
                have hroom64 : l0_3.length ≤ c0_3 := HC0_3.out
                have hC64 : Kd.C k41 _ (some ad153) l0_3.length l0_3 := HR0_3.out
                have hcut64 := cut_to (P := Try.prog) 28 41 .i64 Try.underlying28 hi064 (some ad153) l0_3.length c0_3 x3_2 (of_decide_eq_true (by first | (with_reducible assumption) | assumption)) q64 hroom64
                have hr64 := Kd.C_take (m := (x3_2 : Int).toNat) hC64 (by omega)
                have hy64 : y158.length = (x3_2 : Int).toNat := (by rw [Ny158.out, List.length_take]; omega)
                rw [← Ny158.out] at hr64
                rw [← hy64] at hcut64
                have HR161 := Aside0.mk hr64
                have HC161 := Aside0.mk (show y158.length ≤ c0_3 from by omega)
                clear hr64 hC64 hroom64 hi064 hsz64
                have KY64 := Aside0.mk hy64
                clear hy64
                replace q64 := eq_true q64
                refine hK.out _ _ ⟨(blk_cell BK148.out 0).trans rfl, (blk_cell BK148.out 1).trans rfl, (blk_cell BK148.out 2).trans rfl, (blk_cell BK148.out 3).trans rfl, (blk_cell BK148.out 4).trans rfl, (blk_cell BK154.out 0).trans rfl, (blk_cell BK154.out 1).trans rfl, ((HB.out.cell (World.block_lt_of_cell? w _ hw157_0)).trans hw157_0), ((HB.out.cell (World.block_lt_of_cell? w _ hw157_1)).trans hw157_1)⟩ (fun hHeld => ?_)
                clear hK K
                refine norm_ (a' := ?_) ?_ ?_
                rotate_left
                ·show Act.put _ (some 59) _ = _
                 simp only [Act.put, sx_, sy_, sz_, i64_w, i32_w]
                 rfl
                refine pure_ (i := 12) (N := some 60) (v := ?_) (a' := ?_) spec_YardOk.bt13_ rfl rfl (any_of HT_.out (by kernel_rfl)) (fun _ _ _ h => h) (Or.inl ⟨by rfl, ?_⟩) ?_ ?_
                rotate_left
                ·intro w'
                 go_simp
                 with_reducible rfl
                rotate_left
                ·simp only [Act.put, sx_, sy_, sz_, i64_w, i32_w]
                 rfl
                refine pure_ (i := 13) (N := some 61) (v := ?_) (a' := ?_) spec_YardOk.bt14_ rfl rfl (any_of HT_.out (by kernel_rfl)) (fun _ _ _ h => h) (Or.inl ⟨by rfl, ?_⟩) ?_ ?_
                rotate_left
                ·intro w'
                 go_simp
                 with_reducible rfl
                rotate_left
                ·simp only [Act.put, sx_, sy_, sz_, i64_w, i32_w]
                 rfl
                refine pure_ (i := 14) (N := some 62) (v := ?_) (a' := ?_) spec_YardOk.bt15_ rfl rfl (any_of HT_.out (by kernel_rfl)) (fun _ _ _ h => h) (Or.inl ⟨by rfl, ?_⟩) ?_ ?_
                rotate_left
                ·intro w'
                 go_simp
                 with_reducible rfl
                rotate_left
                ·simp only [Act.put, sx_, sy_, sz_, i64_w, i32_w]
                 rfl
                refine pure_ (i := 15) (N := some 63) (v := ?_) (a' := ?_) spec_YardOk.bt16_ rfl rfl (any_of HT_.out (by kernel_rfl)) (fun _ _ _ h => h) (Or.inl ⟨by rfl, ?_⟩) ?_ ?_
                rotate_left
                ·intro w'
                 go_simp
                 with_reducible rfl
                rotate_left
                ·simp only [Act.put, sx_, sy_, sz_, i64_w, i32_w]
                 rfl
                refine pure_ (i := 16) (N := some 64) (v := ?_) (a' := ?_) spec_YardOk.bt17_ rfl rfl (any_of HT_.out (by kernel_rfl)) (fun _ _ _ h => h) (Or.inl ⟨by rfl, ?_⟩) ?_ ?_
                rotate_left
                ·intro w'
                 go_simp
                 with_reducible rfl
                rotate_left
                ·simp only [Act.put, sx_, sy_, sz_, i64_w, i32_w]
                 rfl
                refine pure_ (i := 17) (N := some 65) (v := ?_) (a' := ?_) spec_YardOk.bt18_ rfl rfl (any_of HT_.out (by kernel_rfl)) (fun _ _ _ h => h) (Or.inl ⟨by rfl, ?_⟩) ?_ ?_
                rotate_left
                ·intro w'
                 go_simp
                 with_reducible rfl
                rotate_left
                ·simp only [Act.put, sx_, sy_, sz_, i64_w, i32_w]
                 rfl
                refine pure_ (i := 18) (N := some 66) (v := ?_) (a' := ?_) spec_YardOk.bt19_ rfl rfl (any_of HT_.out (by kernel_rfl)) (fun _ _ _ h => h) (Or.inl ⟨by rfl, ?_⟩) ?_ ?_
                rotate_left
                ·intro w'
                 go_simp
                 with_reducible rfl
                rotate_left
                ·simp only [Act.put, sx_, sy_, sz_, i64_w, i32_w]
                 rfl
                refine pure_ (i := 20) (N := some 68) (v := ?_) (a' := ?_) spec_YardOk.bt20_ rfl rfl (any_of HT_.out (by kernel_rfl)) (fun _ _ _ h => h) (Or.inl ⟨by rfl, ?_⟩) ?_ ?_
                rotate_left
                ·intro w'
                 go_simp
                 with_reducible rfl
                rotate_left
                ·simp only [Act.put, sx_, sy_, sz_, i64_w, i32_w]
                 rfl
                refine pure_ (i := 21) (N := some 69) (v := ?_) (a' := ?_) spec_YardOk.bt21_ rfl rfl (any_of HT_.out (by kernel_rfl)) (fun _ _ _ h => h) (Or.inl ⟨by rfl, ?_⟩) ?_ ?_
                rotate_left
                ·intro w'
                 go_simp
                 with_reducible rfl
                rotate_left
                ·simp only [Act.put, sx_, sy_, sz_, i64_w, i32_w]
                 rfl
                refine pure_ (i := 25) (N := some 73) (v := ?_) (a' := ?_) spec_YardOk.bt22_ rfl rfl (any_of HT_.out (by kernel_rfl)) (fun _ _ _ h => h) (Or.inl ⟨by rfl, ?_⟩) ?_ ?_
                rotate_left
                ·intro w'
                 go_simp
                 with_reducible rfl
                rotate_left
                ·simp only [Act.put, sx_, sy_, sz_, i64_w, i32_w]
                 rfl
                refine take_ (i := 19) (N := some 67) (v := ?_) (a' := ?_) spec_YardOk.bt23_ rfl rfl (take_ofW HT_.out HW_.out (by kernel_rfl)) (fun _ _ _ h => h) (Or.inl ⟨by rfl, ?_⟩) hHeld ?_ ?_
                rotate_left
                ·rintro w' ⟨s0, s1, s2, s3, s4, s5, s6, s7, s8⟩
                 go_simp
                 with_reducible rfl
                rotate_left
                ·simp only [Act.put, sx_, sy_, sz_, i64_w, i32_w]
                 rfl
                refine pure_ (i := 22) (N := some 70) (v := ?_) (a' := ?_) spec_YardOk.bt24_ rfl rfl (any_of HT_.out (by kernel_rfl)) (fun _ _ _ h => h) (Or.inl ⟨by rfl, ?_⟩) ?_ ?_
                rotate_left
                ·intro w'
                 go_simp
                 with_reducible rfl
                rotate_left
                ·simp only [Act.put, sx_, sy_, sz_, i64_w, i32_w]
                 rfl
                refine pure_ (i := 23) (N := some 71) (v := ?_) (a' := ?_) spec_YardOk.bt25_ rfl rfl (any_of HT_.out (by kernel_rfl)) (fun _ _ _ h => h) (Or.inl ⟨by rfl, ?_⟩) ?_ ?_
                rotate_left
                ·intro w'
                 go_simp
                 with_reducible rfl
                rotate_left
                ·simp only [Act.put, sx_, sy_, sz_, i64_w, i32_w]
                 rfl
                refine take_ (i := 24) (N := some 72) (v := ?_) (a' := ?_) spec_YardOk.bt26_ rfl rfl (take_ofW HT_.out HW_.out (by kernel_rfl)) (fun _ _ _ h => h) (Or.inl ⟨by rfl, ?_⟩) hHeld ?_ ?_
                rotate_left
                ·rintro w' ⟨s0, s1, s2, s3, s4, s5, s6, s7, s8⟩
                 go_simp
                 with_reducible rfl
                rotate_left
                ·simp only [Act.put, sx_, sy_, sz_, i64_w, i32_w]
                 rfl
                refine take_ (i := 26) (N := some 74) (v := ?_) (a' := ?_) spec_YardOk.bt27_ rfl rfl (take_ofW HT_.out HW_.out (by kernel_rfl)) (fun _ _ _ h => h) (Or.inl ⟨by rfl, ?_⟩) hHeld ?_ ?_
                rotate_left
                ·rintro w' ⟨s0, s1, s2, s3, s4, s5, s6, s7, s8⟩
                 go_simp
                 with_reducible rfl
                rotate_left
                ·simp only [Act.put, sx_, sy_, sz_, i64_w, i32_w]
                 rfl
                refine pure_ (i := 27) (N := some 75) (v := ?_) (a' := ?_) spec_YardOk.bt28_ rfl rfl (any_of HT_.out (by kernel_rfl)) (fun _ _ _ h => h) (Or.inl ⟨by rfl, ?_⟩) ?_ ?_
                rotate_left
                ·intro w'
                 go_simp
                 with_reducible rfl
                rotate_left
                ·simp only [Act.put, sx_, sy_, sz_, i64_w, i32_w]
                 rfl
                refine pure_ (i := 28) (N := some 76) (v := ?_) (a' := ?_) spec_YardOk.bt29_ rfl rfl (any_of HT_.out (by kernel_rfl)) (fun _ _ _ h => h) (Or.inl ⟨by rfl, ?_⟩) ?_ ?_
                rotate_left
                ·intro w'
                 go_simp
                 with_reducible rfl
                rotate_left
                ·simp only [Act.put, sx_, sy_, sz_, i64_w, i32_w]
                 rfl
                refine pure_ (i := 29) (N := some 77) (v := ?_) (a' := ?_) spec_YardOk.bt30_ rfl rfl (any_of HT_.out (by kernel_rfl)) (fun _ _ _ h => h) (Or.inl ⟨by rfl, ?_⟩) ?_ ?_
                rotate_left
                ·intro w'
                 go_simp
                 with_reducible rfl
                rotate_left
                ·simp only [Act.put, sx_, sy_, sz_, i64_w, i32_w]
                 rfl
                refine pure_ (i := 30) (N := some 78) (v := ?_) (a' := ?_) spec_YardOk.bt31_ rfl rfl (any_of HT_.out (by kernel_rfl)) (fun _ _ _ h => h) (Or.inl ⟨by rfl, ?_⟩) ?_ ?_
                rotate_left
                ·intro w'
                 go_simp
                 with_reducible rfl
                rotate_left
                ·simp only [Act.put, sx_, sy_, sz_, i64_w, i32_w]
                 rfl
                refine pure_ (i := 31) (N := some 79) (v := ?_) (a' := ?_) spec_YardOk.bt32_ rfl rfl (any_of HT_.out (by kernel_rfl)) (fun _ _ _ h => h) (Or.inl ⟨by rfl, ?_⟩) ?_ ?_
                rotate_left
                ·intro w'
                 go_simp
                 with_reducible rfl
                rotate_left
                ·simp only [Act.put, sx_, sy_, sz_, i64_w, i32_w]
                 rfl
                refine pure_ (i := 33) (N := some 81) (v := ?_) (a' := ?_) spec_YardOk.bt41_ rfl rfl (any_of HT_.out (by kernel_rfl)) (fun _ _ _ h => h) (Or.inl ⟨by rfl, ?_⟩) ?_ ?_
                rotate_left
                ·intro w'
                 go_simp
                 with_reducible rfl
                rotate_left
                ·simp only [Act.put, sx_, sy_, sz_, i64_w, i32_w]
                 rfl
                refine pure_ (i := 35) (N := some 83) (v := ?_) (a' := ?_) spec_YardOk.bt42_ rfl rfl (any_of HT_.out (by kernel_rfl)) (fun _ _ _ h => h) (Or.inl ⟨by rfl, ?_⟩) ?_ ?_
                rotate_left
                ·intro w'
                 go_simp
                 with_reducible rfl
                rotate_left
                ·simp only [Act.put, sx_, sy_, sz_, i64_w, i32_w]
                 rfl
                refine take_ (i := 32) (N := some 80) (v := ?_) (a' := ?_) spec_YardOk.bt43_ rfl rfl (take_ofW HT_.out HW_.out (by kernel_rfl)) (fun _ _ _ h => h) (Or.inl ⟨by rfl, ?_⟩) hHeld ?_ ?_
                rotate_left
                ·rintro w' ⟨s0, s1, s2, s3, s4, s5, s6, s7, s8⟩
                 go_simp
                 with_reducible rfl
                rotate_left
                ·simp only [Act.put, sx_, sy_, sz_, i64_w, i32_w]
                 rfl
                refine pure_ (i := 34) (N := some 82) (v := ?_) (a' := ?_) spec_YardOk.bt36_ rfl rfl (any_of HT_.out (by kernel_rfl)) (fun _ _ _ h => h) (Or.inl ⟨by rfl, ?_⟩) ?_ ?_
                rotate_left
                ·intro w'
                 go_simp
                 with_reducible rfl
                rotate_left
                ·simp only [Act.put, sx_, sy_, sz_, i64_w, i32_w]
                 rfl
                refine take_ (i := 36) (N := some 84) (v := ?_) (a' := ?_) spec_YardOk.bt37_ rfl rfl (take_ofW HT_.out HW_.out (by kernel_rfl)) (fun _ _ _ h => h) (Or.inl ⟨by rfl, ?_⟩) hHeld ?_ ?_
                rotate_left
                ·rintro w' ⟨s0, s1, s2, s3, s4, s5, s6, s7, s8⟩
                 go_simp
                 with_reducible rfl
                rotate_left
                ·simp only [Act.put, sx_, sy_, sz_, i64_w, i32_w]
                 rfl
                refine one_ (i := 37) (N := some 85) spec_YardOk.bt38_ rfl rfl (one_of HT_.out (by kernel_rfl)) (by decide) (fun K hK => ?_)
                refine goes_ Try.func71 (by kernel_rfl) rfl #[.slice (some ad153) y158.length c0_3, .int .i64 ((rd_T41 l0_3 x3_2).f0)] (by rfl) rfl rfl (by (try simp only [List.map_toArray, List.map_cons, List.map_nil]); first | done | rfl | (simp only [List.length_drop, List.length_take]; rfl)) ?_
                with_reducible refine (spec_l3Find.calls k2 _ _ y158 ((rd_T41 l0_3 x3_2).f0) t162 _ ?side1 ?side2 A47.out).mono ?_
                (case side1 => repeat (first | exact (Kd.C_below HR161.out (by repeat (first | (with_reducible first | exact HB.out | apply below_alloc | apply pw_below_drewN | apply below_drew1 | refine below_set ?_ GE148.out | refine below_set ?_ GE154.out) | exact HB.out))) | (with_reducible refine Kd.C_alloc ?_ _) | (with_reducible refine Kd.C_drewN ?_ _) | (with_reducible refine Kd.C_drew ?_)))
                (case side2 => exact HC161.out)
                rintro e w' ⟨rfl, ⟨nd, rfl⟩⟩
                refine ⟨_, rfl, ?_⟩
                refine hK.out _ _ ⟨(blk_cell BK148.out 0).trans rfl, (blk_cell BK148.out 1).trans rfl, (blk_cell BK148.out 2).trans rfl, (blk_cell BK148.out 3).trans rfl, (blk_cell BK148.out 4).trans rfl, (blk_cell BK154.out 0).trans rfl, (blk_cell BK154.out 1).trans rfl, ((HB.out.cell (World.block_lt_of_cell? w _ hw157_0)).trans hw157_0), ((HB.out.cell (World.block_lt_of_cell? w _ hw157_1)).trans hw157_1)⟩ (fun hHeld => ?_)
                clear hK K
                refine norm_ (a' := ?_) ?_ ?_
                rotate_left
                ·show Act.put _ (some 85) _ = _
                 simp only [Act.put, sx_, sy_, sz_, i64_w, i32_w]
                 rfl
                refine pure_ (i := 38) (N := some 86) (v := ?_) (a' := ?_) spec_YardOk.bt39_ rfl rfl (any_of HT_.out (by kernel_rfl)) (fun _ _ _ h => h) (Or.inl ⟨by rfl, ?_⟩) ?_ ?_
                rotate_left
                ·intro w'
                 go_simp
                 with_reducible rfl
                rotate_left
                ·simp only [Act.put, sx_, sy_, sz_, i64_w, i32_w]
                 rfl
                refine pure_ (i := 39) (N := some 87) (v := ?_) (a' := ?_) spec_YardOk.bt40_ rfl rfl (any_of HT_.out (by kernel_rfl)) (fun _ _ _ h => h) (Or.inl ⟨by rfl, ?_⟩) ?_ ?_
                rotate_left
                ·intro w'
                 go_simp
                 with_reducible rfl
                rotate_left
                ·simp only [Act.put, sx_, sy_, sz_, i64_w, i32_w]
                 rfl
                refine done_ (done_of HT_.out (by kernel_rfl)) ?_
                try go_wp2
                go_roundg k2
                case measure => have := HJ1.out; have := HK2.out; omega
                case rel => exact ⟨(wrap64 (x3_2 + 1)), (by first | rfl | (simp; done) | (simp [*]; done)), H', ⟨by have := HJ1.out; have := HK2.out; omega⟩, ⟨BK148.out⟩, ⟨by repeat (first | (with_reducible first | exact HB.out | apply below_alloc | apply pw_below_drewN | apply below_drew1 | refine below_set ?_ GE148.out | refine below_set ?_ GE154.out) | exact HB.out)⟩⟩
              ·rw [if_neg c46] at H
               exact absurd H (by simp)
            ·rw [if_neg c36] at H
             exact absurd H (by simp)
           ·rw [if_neg c35] at H
            exact absurd H (by simp)
          ·rw [if_neg c33] at H
           have c33b0 : decide (0 < x3_2) = false := decide_eq_false c33
           clear c33
           have c65b0 := eq_true (of_decide_eq_true (by first | (with_reducible assumption) | assumption) : 0 ≤ x3_2)
           by_cases c66 : x3_2 ≤ (l0_3.length : Int)
           ·rw [if_pos c66] at H
            have c66b0 := eq_true c66
            have c66b1 : decide (x3_2 ≤ (l0_3.length : Int)) = true := decide_eq_true c66
            clear c66
            obtain ⟨y163, hy163⟩ : ∃ y_ : List (S41), y_ = (l0_3.take (x3_2 : Int).toNat) := ⟨_, rfl⟩
            replace H : ((spec_l3Find.f k2 y163 ((rd_T41 l0_3 x3_2).f0)).bind fun t167 => (if t167 ≥ 0 then (some false) else (spec_YardOk.l0 k2 (wrap64 (x3_2 + 1)) l0_0 l0_1 l0_2 l0_3 a0_4))) = some r := by first | (rw [hy163]; with_reducible exact H) | (have H2_ := (Option.bind_some _ _).symm.trans H; rw [hy163]; with_reducible exact H2_) | (have H2_ := (Option.bind_some _ _).symm.trans H; with_reducible exact H2_) | with_reducible exact H | (rw [hy163]; exact H) | exact H
            have Ny163 := Aside0.mk hy163
            clear hy163
            replace H := Option.bind_eq_some_iff.mp H
            obtain ⟨t167, A670, H⟩ := H
            replace H : (if t167 ≥ 0 then (some false) else (spec_YardOk.l0 k2 (wrap64 (x3_2 + 1)) l0_0 l0_1 l0_2 l0_3 a0_4)) = some r := H
            have A67 := Aside0.mk A670
            clear A670
            by_cases c68 : t167 ≥ 0
            ·rw [if_pos c68] at H
             have c68b0 : decide (0 ≤ t167) = true := decide_eq_true c68
             clear c68
             obtain rfl := Option.some.inj H
             obtain ⟨hcz69_0, hcz69_1, hcz69_2, hcz69_3, hcz69_4, hfz69_0, hfz69_1, hfz69_2, hfz69_3, hfz69_4⟩ := cs5_ BK148.out
             have p153 : 0 ≤ (x3_2 : Int) := of_decide_eq_true (by first | (with_reducible assumption) | assumption)
             have q153 : x3_2 < (l0_3.length : Int) := of_decide_eq_true (by first | (with_reducible assumption) | assumption)
             obtain ⟨ad153, e153, hx153_0, hx153_1⟩ := at_T41 HR0_3.out x3_2 p153 q153
             cases e153
             replace hx153_0 := (HB.out.cell (World.block_lt_of_cell? w _ hx153_0)).trans hx153_0
             replace hx153_1 := (HB.out.cell (World.block_lt_of_cell? w _ hx153_1)).trans hx153_1
             replace p153 := eq_true p153
             replace q153 := eq_true q153
             try go_wp2_with (first | ((with_reducible refine gate_dst (N := 4) rfl ?_); (try (refine gate_guard (by rfl) ?_; dsimp only)); refine box_event ?hg (N := 4) ?hd (cs := #[.int .i64 0, .int .i64 0]) (t := 41) ?hr ?_; (case hd => rfl); (case hg => rfl); (case hr => first | (go_simp; done) | (go_simp; rfl)); intro gb154 hg w70 hbox hb; have n0_ := Aside0.mk (blk_below (g := gb148) (o := .cells #[.slice A0_0 l0_0.length c0_0, .slice A0_1 l0_1.length c0_1, .slice A0_2 l0_2.length c0_2, .slice (some ad153) l0_3.length c0_3, .int .i64 a0_4] 30 (0, 0)) BK148.out hb); have n1_ := Aside0.mk (below_step (by repeat (first | (with_reducible first | exact HB.out | apply below_alloc | apply pw_below_drewN | apply below_drew1 | refine below_set ?_ GE148.out) | exact HB.out)) hb); have n2_ := Aside0.mk (hbox); have n3_ := Aside0.mk ((by rw [hg]; exact (below_size (by repeat (first | (with_reducible first | exact HB.out | apply below_alloc | apply pw_below_drewN | apply below_drew1 | refine below_set ?_ GE148.out) | exact HB.out))) : w.heap.size ≤ gb154)); have n4_ := n3_; have n5_ := Aside0.mk ((by rw [hg]; exact Nat.ne_of_lt (blk_lt (g := gb148) (o := .cells #[.slice A0_0 l0_0.length c0_0, .slice A0_1 l0_1.length c0_1, .slice A0_2 l0_2.length c0_2, .slice (some ad153) l0_3.length c0_3, .int .i64 a0_4] 30 (0, 0)) BK148.out) : gb148 ≠ gb154)); have n6_ := Aside0.mk ((by rw [hg]; exact Nat.ne_of_gt (blk_lt (g := gb148) (o := .cells #[.slice A0_0 l0_0.length c0_0, .slice A0_1 l0_1.length c0_1, .slice A0_2 l0_2.length c0_2, .slice (some ad153) l0_3.length c0_3, .int .i64 a0_4] 30 (0, 0)) BK148.out) : gb154 ≠ gb148)); replace BK148 := n0_; replace HB := n1_; have BK154 := n2_; have GW154 := n3_; have GE154 := n4_; have NB148_154 := n5_; have NB154_148 := n6_; clear n0_ n1_ n2_ n3_ n4_ n5_ n6_; clear hb hbox hg; have hnb71 := NB154_148.out; have hnc71 := NB148_154.out; obtain ⟨hcz72_0, hcz72_1, hfz72_0, hfz72_1⟩ := cs2_ BK154.out))
             have n0_ : Aside0 (((w70.setCell ⟨gb154, 0, none⟩ (.int .i64 ((rd_T41 l0_3 x3_2).f0))).setCell ⟨gb154, 1, none⟩ (.int .i64 ((rd_T41 l0_3 x3_2).f1))).heap[gb148]? = some (.cells #[.slice A0_0 l0_0.length c0_0, .slice A0_1 l0_1.length c0_1, .slice A0_2 l0_2.length c0_2, .slice (some ad153) l0_3.length c0_3, .int .i64 a0_4] 30 (0, 0))) := ⟨by (with_reducible repeat (first | refine blk_drewN ?_ _ | refine blk_drew ?_ | refine blk_alloc ?_ _)); refine blk_far ?_ NB148_154.out _; (with_reducible repeat (first | refine blk_drewN ?_ _ | refine blk_drew ?_ | refine blk_alloc ?_ _)); refine blk_far ?_ NB148_154.out _; (with_reducible repeat (first | refine blk_drewN ?_ _ | refine blk_drew ?_ | refine blk_alloc ?_ _)); exact BK148.out⟩
             have n1_ : Aside0 (((w70.setCell ⟨gb154, 0, none⟩ (.int .i64 ((rd_T41 l0_3 x3_2).f0))).setCell ⟨gb154, 1, none⟩ (.int .i64 ((rd_T41 l0_3 x3_2).f1))).heap[gb154]? = some (.cells #[.int .i64 ((rd_T41 l0_3 x3_2).f0), .int .i64 ((rd_T41 l0_3 x3_2).f1)] 41 (0, 0))) := ⟨by (with_reducible repeat (first | refine blk_drewN ?_ _ | refine blk_drew ?_ | refine blk_alloc ?_ _)); refine blk_put (cs := #[.int .i64 ((rd_T41 l0_3 x3_2).f0), .int .i64 0]) ?_ 1 _ rfl; (with_reducible repeat (first | refine blk_drewN ?_ _ | refine blk_drew ?_ | refine blk_alloc ?_ _)); refine blk_put (cs := #[.int .i64 0, .int .i64 0]) ?_ 0 _ rfl; (with_reducible repeat (first | refine blk_drewN ?_ _ | refine blk_drew ?_ | refine blk_alloc ?_ _)); exact BK154.out⟩
             have n2_ : Aside0 (Below w.heap.size w ((w70.setCell ⟨gb154, 0, none⟩ (.int .i64 ((rd_T41 l0_3 x3_2).f0))).setCell ⟨gb154, 1, none⟩ (.int .i64 ((rd_T41 l0_3 x3_2).f1)))) := ⟨by repeat (first | (with_reducible first | exact HB.out | apply below_alloc | apply pw_below_drewN | apply below_drew1 | refine below_set ?_ GE148.out | refine below_set ?_ GE154.out) | exact HB.out)⟩
             (try clear BK148)
             (try clear BK154)
             (try clear HB)
             generalize ((w70.setCell ⟨gb154, 0, none⟩ (.int .i64 ((rd_T41 l0_3 x3_2).f0))).setCell ⟨gb154, 1, none⟩ (.int .i64 ((rd_T41 l0_3 x3_2).f1))) = w73 at n0_ n1_ n2_ ⊢
             have BK148 := n0_
             have BK154 := n1_
             have HB := n2_
             clear n0_ n1_ n2_
             have n0_ := Aside0.mk (blk_drew BK148.out)
             have n1_ := Aside0.mk (blk_drew BK154.out)
             have n2_ := Aside0.mk (below_drew1 HB.out)
             clear BK148
             clear BK154
             clear HB
             have BK148 := n0_
             have BK154 := n1_
             have HB := n2_
             clear n0_ n1_ n2_
             refine start_ (n := 40) (S := fun w' => w'.cell? ⟨gb148, 0, none⟩ = some (.slice A0_0 l0_0.length c0_0) ∧ w'.cell? ⟨gb148, 1, none⟩ = some (.slice A0_1 l0_1.length c0_1) ∧ w'.cell? ⟨gb148, 2, none⟩ = some (.slice A0_2 l0_2.length c0_2) ∧ w'.cell? ⟨gb148, 3, none⟩ = some (.slice (some ad153) l0_3.length c0_3) ∧ w'.cell? ⟨gb148, 4, none⟩ = some (.int .i64 a0_4) ∧ w'.cell? ⟨gb154, 0, none⟩ = some (.int .i64 ((rd_T41 l0_3 x3_2).f0)) ∧ w'.cell? ⟨gb154, 1, none⟩ = some (.int .i64 ((rd_T41 l0_3 x3_2).f1))) (ds := []) spec_YardOk.bt0_ (by kernel_rfl) rfl rfl ⟨(blk_cell BK148.out 0).trans rfl, (blk_cell BK148.out 1).trans rfl, (blk_cell BK148.out 2).trans rfl, (blk_cell BK148.out 3).trans rfl, (blk_cell BK148.out 4).trans rfl, (blk_cell BK154.out 0).trans rfl, (blk_cell BK154.out 1).trans rfl⟩ (fun hHeld => ?_); refine with_tabW spec_YardOk.tab7 spec_YardOk.bits7 (fun HT_ HW_ => ?_)
             generalize w73.drew = w74 at BK148 BK154 HB hHeld ⊢
             refine pure_ (i := 0) (N := some 48) (v := ?_) (a' := ?_) spec_YardOk.bt1_ rfl rfl (any_of HT_.out (by kernel_rfl)) (fun _ _ _ h => h) (Or.inl ⟨by rfl, ?_⟩) ?_ ?_
             rotate_left
             ·intro w'
              go_simp
              with_reducible rfl
             rotate_left
             ·simp only [Act.put, sx_, sy_, sz_, i64_w, i32_w]
              rfl
             refine pure_ (i := 2) (N := some 50) (v := ?_) (a' := ?_) spec_YardOk.bt2_ rfl rfl (any_of HT_.out (by kernel_rfl)) (fun _ _ _ h => h) (Or.inl ⟨by rfl, ?_⟩) ?_ ?_
             rotate_left
             ·intro w'
              go_simp
              with_reducible rfl
             rotate_left
             ·simp only [Act.put, sx_, sy_, sz_, i64_w, i32_w]
              rfl
             refine take_ (i := 1) (N := some 49) (v := ?_) (a' := ?_) spec_YardOk.bt3_ rfl rfl (take_ofW HT_.out HW_.out (by kernel_rfl)) (fun _ _ _ h => h) (Or.inl ⟨by rfl, ?_⟩) hHeld ?_ ?_
             rotate_left
             ·rintro w' ⟨s0, s1, s2, s3, s4, s5, s6⟩
              go_simp
              with_reducible rfl
             rotate_left
             ·simp only [Act.put, sx_, sy_, sz_, i64_w, i32_w]
              rfl
             refine take_ (i := 3) (N := some 51) (v := ?_) (a' := ?_) spec_YardOk.bt4_ rfl rfl (take_ofW HT_.out HW_.out (by kernel_rfl)) (fun _ _ _ h => h) (Or.inl ⟨by rfl, ?_⟩) hHeld ?_ ?_
             rotate_left
             ·rintro w' ⟨s0, s1, s2, s3, s4, s5, s6⟩
              go_simp
              with_reducible rfl
             rotate_left
             ·simp only [Act.put, sx_, sy_, sz_, i64_w, i32_w]
              rfl
             refine one_ (i := 4) (N := some 52) spec_YardOk.bt5_ rfl rfl (one_of HT_.out (by kernel_rfl)) (by decide) (fun K hK => ?_)
             refine goes_ Try.func70 (by kernel_rfl) rfl #[.agg #[.slice A0_0 l0_0.length c0_0, .slice A0_1 l0_1.length c0_1], .int .i64 ((rd_T41 l0_3 x3_2).f0)] (by rfl) rfl rfl (by (try simp only [List.map_toArray, List.map_cons, List.map_nil]); first | done | rfl | (simp only [List.length_drop, List.length_take]; rfl)) ?_
             with_reducible refine (spec_Live.calls k2 _ _ l0_0 _ _ l0_1 ((rd_T41 l0_3 x3_2).f0) true _ ?side1 ?side2 ?side3 ?side4 A29.out).mono ?_
             (case side1 => exact (Kd.C_below HR0_0.out HB.out))
             (case side2 => exact HC0_0.out)
             (case side3 => exact (Kd.C_below HR0_1.out HB.out))
             (case side4 => exact HC0_1.out)
             rintro e w75 ⟨rfl, hb⟩
             refine ⟨_, rfl, ?_⟩
             have n0_ := Aside0.mk (blk_below (g := gb148) (o := .cells #[.slice A0_0 l0_0.length c0_0, .slice A0_1 l0_1.length c0_1, .slice A0_2 l0_2.length c0_2, .slice (some ad153) l0_3.length c0_3, .int .i64 a0_4] 30 (0, 0)) BK148.out hb)
             have n1_ := Aside0.mk (blk_below (g := gb154) (o := .cells #[.int .i64 ((rd_T41 l0_3 x3_2).f0), .int .i64 ((rd_T41 l0_3 x3_2).f1)] 41 (0, 0)) BK154.out hb)
             have n2_ := Aside0.mk (below_step (by repeat (first | (with_reducible first | exact HB.out | apply below_alloc | apply pw_below_drewN | apply below_drew1 | refine below_set ?_ GE148.out | refine below_set ?_ GE154.out) | exact HB.out)) hb)
             clear BK148
             clear BK154
             clear HB
             have BK148 := n0_
             have BK154 := n1_
             have HB := n2_
             clear n0_ n1_ n2_
             (try clear hb)
             (try clear hb2)
             (try clear hk)
             (try clear hi)
             refine hK.out _ _ ⟨(blk_cell BK148.out 0).trans rfl, (blk_cell BK148.out 1).trans rfl, (blk_cell BK148.out 2).trans rfl, (blk_cell BK148.out 3).trans rfl, (blk_cell BK148.out 4).trans rfl, (blk_cell BK154.out 0).trans rfl, (blk_cell BK154.out 1).trans rfl⟩ (fun hHeld => ?_)
             clear hK K
             refine norm_ (a' := ?_) ?_ ?_
             rotate_left
             ·show Act.put _ (some 52) _ = _
              simp only [Act.put, sx_, sy_, sz_, i64_w, i32_w]
              rfl
             refine pure_ (i := 5) (N := some 53) (v := ?_) (a' := ?_) spec_YardOk.bt6_ rfl rfl (any_of HT_.out (by kernel_rfl)) (fun _ _ _ h => h) (Or.inl ⟨by rfl, ?_⟩) ?_ ?_
             rotate_left
             ·intro w'
              go_simp
              with_reducible rfl
             rotate_left
             ·simp only [Act.put, sx_, sy_, sz_, i64_w, i32_w]
              rfl
             refine pure_ (i := 6) (N := some 54) (v := ?_) (a' := ?_) spec_YardOk.bt7_ rfl rfl (any_of HT_.out (by kernel_rfl)) (fun _ _ _ h => h) (Or.inl ⟨by rfl, ?_⟩) ?_ ?_
             rotate_left
             ·intro w'
              go_simp
              with_reducible rfl
             rotate_left
             ·simp only [Act.put, sx_, sy_, sz_, i64_w, i32_w]
              rfl
             refine pure_ (i := 7) (N := some 55) (v := ?_) (a' := ?_) spec_YardOk.bt8_ rfl rfl (any_of HT_.out (by kernel_rfl)) (fun _ _ _ h => h) (Or.inl ⟨by rfl, ?_⟩) ?_ ?_
             rotate_left
             ·intro w'
              go_simp
              with_reducible rfl
             rotate_left
             ·simp only [Act.put, sx_, sy_, sz_, i64_w, i32_w]
              rfl
             refine pure_ (i := 9) (N := some 57) (v := ?_) (a' := ?_) spec_YardOk.bt9_ rfl rfl (any_of HT_.out (by kernel_rfl)) (fun _ _ _ h => h) (Or.inl ⟨by rfl, ?_⟩) ?_ ?_
             rotate_left
             ·intro w'
              go_simp
              with_reducible rfl
             rotate_left
             ·simp only [Act.put, sx_, sy_, sz_, i64_w, i32_w]
              rfl
             refine take_ (i := 8) (N := some 56) (v := ?_) (a' := ?_) spec_YardOk.bt10_ rfl rfl (take_ofW HT_.out HW_.out (by kernel_rfl)) (fun _ _ _ h => h) (Or.inl ⟨by rfl, ?_⟩) hHeld ?_ ?_
             rotate_left
             ·rintro w' ⟨s0, s1, s2, s3, s4, s5, s6⟩
              go_simp
              with_reducible rfl
             rotate_left
             ·simp only [Act.put, sx_, sy_, sz_, i64_w, i32_w]
              rfl
             refine take_ (i := 10) (N := some 58) (v := ?_) (a' := ?_) spec_YardOk.bt11_ rfl rfl (take_ofW HT_.out HW_.out (by kernel_rfl)) (fun _ _ _ h => h) (Or.inl ⟨by rfl, ?_⟩) hHeld ?_ ?_
             rotate_left
             ·rintro w' ⟨s0, s1, s2, s3, s4, s5, s6⟩
              go_simp
              with_reducible rfl
             rotate_left
             ·simp only [Act.put, sx_, sy_, sz_, i64_w, i32_w]
              rfl
             refine one_ (i := 11) (N := some 59) spec_YardOk.bt12_ rfl rfl (one_of HT_.out (by kernel_rfl)) (by decide) (fun K hK => ?_)
             refine goes_ Try.func55 (by kernel_rfl) rfl #[.int .i64 ((rd_T41 l0_3 x3_2).f1), .int .i64 0, .int .i64 a0_4] (by rfl) rfl rfl (by (try simp only [List.map_toArray, List.map_cons, List.map_nil]); first | done | rfl | (simp only [List.length_drop, List.length_take]; rfl)) ?_
             with_reducible refine (spec_l1In.calls ((rd_T41 l0_3 x3_2).f1) 0 a0_4 true _ A31.out).mono ?_
             rintro e w' ⟨rfl, ⟨nd, rfl⟩⟩
             refine ⟨_, rfl, ?_⟩
             have q76 : (x3_2 : Int) ≤ ((l0_3.length : Int) : Int) := of_decide_eq_true (by first | (with_reducible assumption) | assumption)
             obtain ⟨i076, hi076, _, hsz76, _⟩ := info_parts info41
             have hroom76 : l0_3.length ≤ c0_3 := HC0_3.out
             have hC76 : Kd.C k41 _ (some ad153) l0_3.length l0_3 := HR0_3.out
             have hcut76 := cut_to (P := Try.prog) 28 41 .i64 Try.underlying28 hi076 (some ad153) l0_3.length c0_3 x3_2 (of_decide_eq_true (by first | (with_reducible assumption) | assumption)) q76 hroom76
             have hr76 := Kd.C_take (m := (x3_2 : Int).toNat) hC76 (by omega)
             have hy76 : y163.length = (x3_2 : Int).toNat := (by rw [Ny163.out, List.length_take]; omega)
             rw [← Ny163.out] at hr76
             rw [← hy76] at hcut76
             have HR166 := Aside0.mk hr76
             have HC166 := Aside0.mk (show y163.length ≤ c0_3 from by omega)
             clear hr76 hC76 hroom76 hi076 hsz76
             have KY76 := Aside0.mk hy76
             clear hy76
             replace q76 := eq_true q76
             refine hK.out _ _ ⟨(blk_cell BK148.out 0).trans rfl, (blk_cell BK148.out 1).trans rfl, (blk_cell BK148.out 2).trans rfl, (blk_cell BK148.out 3).trans rfl, (blk_cell BK148.out 4).trans rfl, (blk_cell BK154.out 0).trans rfl, (blk_cell BK154.out 1).trans rfl⟩ (fun hHeld => ?_)
             clear hK K
             refine norm_ (a' := ?_) ?_ ?_
             rotate_left
             ·show Act.put _ (some 59) _ = _
              simp only [Act.put, sx_, sy_, sz_, i64_w, i32_w]
              rfl
             refine pure_ (i := 12) (N := some 60) (v := ?_) (a' := ?_) spec_YardOk.bt13_ rfl rfl (any_of HT_.out (by kernel_rfl)) (fun _ _ _ h => h) (Or.inl ⟨by rfl, ?_⟩) ?_ ?_
             rotate_left
             ·intro w'
              go_simp
              with_reducible rfl
             rotate_left
             ·simp only [Act.put, sx_, sy_, sz_, i64_w, i32_w]
              rfl
             refine pure_ (i := 13) (N := some 61) (v := ?_) (a' := ?_) spec_YardOk.bt14_ rfl rfl (any_of HT_.out (by kernel_rfl)) (fun _ _ _ h => h) (Or.inl ⟨by rfl, ?_⟩) ?_ ?_
             rotate_left
             ·intro w'
              go_simp
              with_reducible rfl
             rotate_left
             ·simp only [Act.put, sx_, sy_, sz_, i64_w, i32_w]
              rfl
             refine pure_ (i := 14) (N := some 62) (v := ?_) (a' := ?_) spec_YardOk.bt15_ rfl rfl (any_of HT_.out (by kernel_rfl)) (fun _ _ _ h => h) (Or.inl ⟨by rfl, ?_⟩) ?_ ?_
             rotate_left
             ·intro w'
              go_simp
              with_reducible rfl
             rotate_left
             ·simp only [Act.put, sx_, sy_, sz_, i64_w, i32_w]
              rfl
             refine pure_ (i := 15) (N := some 63) (v := ?_) (a' := ?_) spec_YardOk.bt16_ rfl rfl (any_of HT_.out (by kernel_rfl)) (fun _ _ _ h => h) (Or.inl ⟨by rfl, ?_⟩) ?_ ?_
             rotate_left
             ·intro w'
              go_simp
              with_reducible rfl
             rotate_left
             ·simp only [Act.put, sx_, sy_, sz_, i64_w, i32_w]
              rfl
             refine pure_ (i := 16) (N := some 64) (v := ?_) (a' := ?_) spec_YardOk.bt17_ rfl rfl (any_of HT_.out (by kernel_rfl)) (fun _ _ _ h => h) (Or.inl ⟨by rfl, ?_⟩) ?_ ?_
             rotate_left
             ·intro w'
              go_simp
              with_reducible rfl
             rotate_left
             ·simp only [Act.put, sx_, sy_, sz_, i64_w, i32_w]
              rfl
             refine pure_ (i := 17) (N := some 65) (v := ?_) (a' := ?_) spec_YardOk.bt18_ rfl rfl (any_of HT_.out (by kernel_rfl)) (fun _ _ _ h => h) (Or.inl ⟨by rfl, ?_⟩) ?_ ?_
             rotate_left
             ·intro w'
              go_simp
              with_reducible rfl
             rotate_left
             ·simp only [Act.put, sx_, sy_, sz_, i64_w, i32_w]
              rfl
             refine pure_ (i := 18) (N := some 66) (v := undef) (a' := ?_) spec_YardOk.bt19_ rfl rfl (any_of HT_.out (by kernel_rfl)) (fun _ _ _ h => h) (Or.inr ⟨by rfl, rfl⟩) ?_ ?_
             rotate_left
             ·simp only [Act.put, sx_, sy_, sz_, i64_w, i32_w]
              rfl
             refine pure_ (i := 19) (N := some 67) (v := undef) (a' := ?_) spec_YardOk.bt44_ rfl rfl (any_of HT_.out (by kernel_rfl)) (fun _ _ _ h => h) (Or.inr ⟨by rfl, rfl⟩) ?_ ?_
             rotate_left
             ·simp only [Act.put, sx_, sy_, sz_, i64_w, i32_w]
              rfl
             refine pure_ (i := 20) (N := some 68) (v := undef) (a' := ?_) spec_YardOk.bt45_ rfl rfl (any_of HT_.out (by kernel_rfl)) (fun _ _ _ h => h) (Or.inr ⟨by rfl, rfl⟩) ?_ ?_
             rotate_left
             ·simp only [Act.put, sx_, sy_, sz_, i64_w, i32_w]
              rfl
             refine pure_ (i := 21) (N := some 69) (v := undef) (a' := ?_) spec_YardOk.bt46_ rfl rfl (any_of HT_.out (by kernel_rfl)) (fun _ _ _ h => h) (Or.inr ⟨by rfl, rfl⟩) ?_ ?_
             rotate_left
             ·simp only [Act.put, sx_, sy_, sz_, i64_w, i32_w]
              rfl
             refine pure_ (i := 22) (N := some 70) (v := undef) (a' := ?_) spec_YardOk.bt47_ rfl rfl (any_of HT_.out (by kernel_rfl)) (fun _ _ _ h => h) (Or.inr ⟨by rfl, rfl⟩) ?_ ?_
             rotate_left
             ·simp only [Act.put, sx_, sy_, sz_, i64_w, i32_w]
              rfl
             refine pure_ (i := 23) (N := some 71) (v := undef) (a' := ?_) spec_YardOk.bt48_ rfl rfl (any_of HT_.out (by kernel_rfl)) (fun _ _ _ h => h) (Or.inr ⟨by rfl, rfl⟩) ?_ ?_
             rotate_left
             ·simp only [Act.put, sx_, sy_, sz_, i64_w, i32_w]
              rfl
             refine pure_ (i := 24) (N := some 72) (v := undef) (a' := ?_) spec_YardOk.bt49_ rfl rfl (any_of HT_.out (by kernel_rfl)) (fun _ _ _ h => h) (Or.inr ⟨by rfl, rfl⟩) ?_ ?_
             rotate_left
             ·simp only [Act.put, sx_, sy_, sz_, i64_w, i32_w]
              rfl
             refine pure_ (i := 25) (N := some 73) (v := undef) (a' := ?_) spec_YardOk.bt26_ rfl rfl (any_of HT_.out (by kernel_rfl)) (fun _ _ _ h => h) (Or.inr ⟨by rfl, rfl⟩) ?_ ?_
             rotate_left
             ·simp only [Act.put, sx_, sy_, sz_, i64_w, i32_w]
              rfl
             refine pure_ (i := 26) (N := some 74) (v := undef) (a' := ?_) spec_YardOk.bt27_ rfl rfl (any_of HT_.out (by kernel_rfl)) (fun _ _ _ h => h) (Or.inr ⟨by rfl, rfl⟩) ?_ ?_
             rotate_left
             ·simp only [Act.put, sx_, sy_, sz_, i64_w, i32_w]
              rfl
             refine pure_ (i := 27) (N := some 75) (v := undef) (a' := ?_) spec_YardOk.bt28_ rfl rfl (any_of HT_.out (by kernel_rfl)) (fun _ _ _ h => h) (Or.inr ⟨by rfl, rfl⟩) ?_ ?_
             rotate_left
             ·simp only [Act.put, sx_, sy_, sz_, i64_w, i32_w]
              rfl
             refine pure_ (i := 28) (N := some 76) (v := ?_) (a' := ?_) spec_YardOk.bt29_ rfl rfl (any_of HT_.out (by kernel_rfl)) (fun _ _ _ h => h) (Or.inl ⟨by rfl, ?_⟩) ?_ ?_
             rotate_left
             ·intro w'
              go_simp
              with_reducible rfl
             rotate_left
             ·simp only [Act.put, sx_, sy_, sz_, i64_w, i32_w]
              rfl
             refine pure_ (i := 29) (N := some 77) (v := ?_) (a' := ?_) spec_YardOk.bt30_ rfl rfl (any_of HT_.out (by kernel_rfl)) (fun _ _ _ h => h) (Or.inl ⟨by rfl, ?_⟩) ?_ ?_
             rotate_left
             ·intro w'
              go_simp
              with_reducible rfl
             rotate_left
             ·simp only [Act.put, sx_, sy_, sz_, i64_w, i32_w]
              rfl
             refine pure_ (i := 30) (N := some 78) (v := ?_) (a' := ?_) spec_YardOk.bt31_ rfl rfl (any_of HT_.out (by kernel_rfl)) (fun _ _ _ h => h) (Or.inl ⟨by rfl, ?_⟩) ?_ ?_
             rotate_left
             ·intro w'
              go_simp
              with_reducible rfl
             rotate_left
             ·simp only [Act.put, sx_, sy_, sz_, i64_w, i32_w]
              rfl
             refine pure_ (i := 31) (N := some 79) (v := ?_) (a' := ?_) spec_YardOk.bt32_ rfl rfl (any_of HT_.out (by kernel_rfl)) (fun _ _ _ h => h) (Or.inl ⟨by rfl, ?_⟩) ?_ ?_
             rotate_left
             ·intro w'
              go_simp
              with_reducible rfl
             rotate_left
             ·simp only [Act.put, sx_, sy_, sz_, i64_w, i32_w]
              rfl
             refine pure_ (i := 33) (N := some 81) (v := ?_) (a' := ?_) spec_YardOk.bt41_ rfl rfl (any_of HT_.out (by kernel_rfl)) (fun _ _ _ h => h) (Or.inl ⟨by rfl, ?_⟩) ?_ ?_
             rotate_left
             ·intro w'
              go_simp
              with_reducible rfl
             rotate_left
             ·simp only [Act.put, sx_, sy_, sz_, i64_w, i32_w]
              rfl
             refine pure_ (i := 35) (N := some 83) (v := ?_) (a' := ?_) spec_YardOk.bt42_ rfl rfl (any_of HT_.out (by kernel_rfl)) (fun _ _ _ h => h) (Or.inl ⟨by rfl, ?_⟩) ?_ ?_
             rotate_left
             ·intro w'
              go_simp
              with_reducible rfl
             rotate_left
             ·simp only [Act.put, sx_, sy_, sz_, i64_w, i32_w]
              rfl
             refine take_ (i := 32) (N := some 80) (v := ?_) (a' := ?_) spec_YardOk.bt43_ rfl rfl (take_ofW HT_.out HW_.out (by kernel_rfl)) (fun _ _ _ h => h) (Or.inl ⟨by rfl, ?_⟩) hHeld ?_ ?_
             rotate_left
             ·rintro w' ⟨s0, s1, s2, s3, s4, s5, s6⟩
              go_simp
              with_reducible rfl
             rotate_left
             ·simp only [Act.put, sx_, sy_, sz_, i64_w, i32_w]
              rfl
             refine pure_ (i := 34) (N := some 82) (v := ?_) (a' := ?_) spec_YardOk.bt36_ rfl rfl (any_of HT_.out (by kernel_rfl)) (fun _ _ _ h => h) (Or.inl ⟨by rfl, ?_⟩) ?_ ?_
             rotate_left
             ·intro w'
              go_simp
              with_reducible rfl
             rotate_left
             ·simp only [Act.put, sx_, sy_, sz_, i64_w, i32_w]
              rfl
             refine take_ (i := 36) (N := some 84) (v := ?_) (a' := ?_) spec_YardOk.bt37_ rfl rfl (take_ofW HT_.out HW_.out (by kernel_rfl)) (fun _ _ _ h => h) (Or.inl ⟨by rfl, ?_⟩) hHeld ?_ ?_
             rotate_left
             ·rintro w' ⟨s0, s1, s2, s3, s4, s5, s6⟩
              go_simp
              with_reducible rfl
             rotate_left
             ·simp only [Act.put, sx_, sy_, sz_, i64_w, i32_w]
              rfl
             refine one_ (i := 37) (N := some 85) spec_YardOk.bt38_ rfl rfl (one_of HT_.out (by kernel_rfl)) (by decide) (fun K hK => ?_)
             refine goes_ Try.func71 (by kernel_rfl) rfl #[.slice (some ad153) y163.length c0_3, .int .i64 ((rd_T41 l0_3 x3_2).f0)] (by rfl) rfl rfl (by (try simp only [List.map_toArray, List.map_cons, List.map_nil]); first | done | rfl | (simp only [List.length_drop, List.length_take]; rfl)) ?_
             with_reducible refine (spec_l3Find.calls k2 _ _ y163 ((rd_T41 l0_3 x3_2).f0) t167 _ ?side1 ?side2 A67.out).mono ?_
             (case side1 => repeat (first | exact (Kd.C_below HR166.out (by repeat (first | (with_reducible first | exact HB.out | apply below_alloc | apply pw_below_drewN | apply below_drew1 | refine below_set ?_ GE148.out | refine below_set ?_ GE154.out) | exact HB.out))) | (with_reducible refine Kd.C_alloc ?_ _) | (with_reducible refine Kd.C_drewN ?_ _) | (with_reducible refine Kd.C_drew ?_)))
             (case side2 => exact HC166.out)
             rintro e w' ⟨rfl, ⟨nd, rfl⟩⟩
             refine ⟨_, rfl, ?_⟩
             refine hK.out _ _ ⟨(blk_cell BK148.out 0).trans rfl, (blk_cell BK148.out 1).trans rfl, (blk_cell BK148.out 2).trans rfl, (blk_cell BK148.out 3).trans rfl, (blk_cell BK148.out 4).trans rfl, (blk_cell BK154.out 0).trans rfl, (blk_cell BK154.out 1).trans rfl⟩ (fun hHeld => ?_)
             clear hK K
             refine norm_ (a' := ?_) ?_ ?_
             rotate_left
             ·show Act.put _ (some 85) _ = _
              simp only [Act.put, sx_, sy_, sz_, i64_w, i32_w]
              rfl
             refine pure_ (i := 38) (N := some 86) (v := ?_) (a' := ?_) spec_YardOk.bt39_ rfl rfl (any_of HT_.out (by kernel_rfl)) (fun _ _ _ h => h) (Or.inl ⟨by rfl, ?_⟩) ?_ ?_
             rotate_left
             ·intro w'
              go_simp
              with_reducible rfl
             rotate_left
             ·simp only [Act.put, sx_, sy_, sz_, i64_w, i32_w]
              rfl
             refine pure_ (i := 39) (N := some 87) (v := ?_) (a' := ?_) spec_YardOk.bt40_ rfl rfl (any_of HT_.out (by kernel_rfl)) (fun _ _ _ h => h) (Or.inl ⟨by rfl, ?_⟩) ?_ ?_
             rotate_left
             ·intro w'
              go_simp
              with_reducible rfl
             rotate_left
             ·simp only [Act.put, sx_, sy_, sz_, i64_w, i32_w]
              rfl
             refine done_ (done_of HT_.out (by kernel_rfl)) ?_
             try go_wp2
             go_ret
             exact ⟨by first | rfl | (simp [errW_none, errW_some] <;> rfl) | (simp [*, errW_none, errW_some] <;> rfl), by repeat (first | (with_reducible first | exact HB.out | apply below_alloc | apply pw_below_drewN | apply below_drew1 | refine below_set ?_ GE148.out | refine below_set ?_ GE154.out) | exact HB.out)⟩
            ·rw [if_neg c68] at H
             have c68b0 : decide (0 ≤ t167) = false := decide_eq_false c68
             clear c68
             have H' := Aside0.mk H
             clear H
             obtain ⟨hcz77_0, hcz77_1, hcz77_2, hcz77_3, hcz77_4, hfz77_0, hfz77_1, hfz77_2, hfz77_3, hfz77_4⟩ := cs5_ BK148.out
             have p153 : 0 ≤ (x3_2 : Int) := of_decide_eq_true (by first | (with_reducible assumption) | assumption)
             have q153 : x3_2 < (l0_3.length : Int) := of_decide_eq_true (by first | (with_reducible assumption) | assumption)
             obtain ⟨ad153, e153, hx153_0, hx153_1⟩ := at_T41 HR0_3.out x3_2 p153 q153
             cases e153
             replace hx153_0 := (HB.out.cell (World.block_lt_of_cell? w _ hx153_0)).trans hx153_0
             replace hx153_1 := (HB.out.cell (World.block_lt_of_cell? w _ hx153_1)).trans hx153_1
             replace p153 := eq_true p153
             replace q153 := eq_true q153
             try go_wp2_with (first | ((with_reducible refine gate_dst (N := 4) rfl ?_); (try (refine gate_guard (by rfl) ?_; dsimp only)); refine box_event ?hg (N := 4) ?hd (cs := #[.int .i64 0, .int .i64 0]) (t := 41) ?hr ?_; (case hd => rfl); (case hg => rfl); (case hr => first | (go_simp; done) | (go_simp; rfl)); intro gb154 hg w78 hbox hb; have n0_ := Aside0.mk (blk_below (g := gb148) (o := .cells #[.slice A0_0 l0_0.length c0_0, .slice A0_1 l0_1.length c0_1, .slice A0_2 l0_2.length c0_2, .slice (some ad153) l0_3.length c0_3, .int .i64 a0_4] 30 (0, 0)) BK148.out hb); have n1_ := Aside0.mk (below_step (by repeat (first | (with_reducible first | exact HB.out | apply below_alloc | apply pw_below_drewN | apply below_drew1 | refine below_set ?_ GE148.out) | exact HB.out)) hb); have n2_ := Aside0.mk (hbox); have n3_ := Aside0.mk ((by rw [hg]; exact (below_size (by repeat (first | (with_reducible first | exact HB.out | apply below_alloc | apply pw_below_drewN | apply below_drew1 | refine below_set ?_ GE148.out) | exact HB.out))) : w.heap.size ≤ gb154)); have n4_ := n3_; have n5_ := Aside0.mk ((by rw [hg]; exact Nat.ne_of_lt (blk_lt (g := gb148) (o := .cells #[.slice A0_0 l0_0.length c0_0, .slice A0_1 l0_1.length c0_1, .slice A0_2 l0_2.length c0_2, .slice (some ad153) l0_3.length c0_3, .int .i64 a0_4] 30 (0, 0)) BK148.out) : gb148 ≠ gb154)); have n6_ := Aside0.mk ((by rw [hg]; exact Nat.ne_of_gt (blk_lt (g := gb148) (o := .cells #[.slice A0_0 l0_0.length c0_0, .slice A0_1 l0_1.length c0_1, .slice A0_2 l0_2.length c0_2, .slice (some ad153) l0_3.length c0_3, .int .i64 a0_4] 30 (0, 0)) BK148.out) : gb154 ≠ gb148)); replace BK148 := n0_; replace HB := n1_; have BK154 := n2_; have GW154 := n3_; have GE154 := n4_; have NB148_154 := n5_; have NB154_148 := n6_; clear n0_ n1_ n2_ n3_ n4_ n5_ n6_; clear hb hbox hg; have hnb79 := NB154_148.out; have hnc79 := NB148_154.out; obtain ⟨hcz80_0, hcz80_1, hfz80_0, hfz80_1⟩ := cs2_ BK154.out))
             have n0_ : Aside0 (((w78.setCell ⟨gb154, 0, none⟩ (.int .i64 ((rd_T41 l0_3 x3_2).f0))).setCell ⟨gb154, 1, none⟩ (.int .i64 ((rd_T41 l0_3 x3_2).f1))).heap[gb148]? = some (.cells #[.slice A0_0 l0_0.length c0_0, .slice A0_1 l0_1.length c0_1, .slice A0_2 l0_2.length c0_2, .slice (some ad153) l0_3.length c0_3, .int .i64 a0_4] 30 (0, 0))) := ⟨by (with_reducible repeat (first | refine blk_drewN ?_ _ | refine blk_drew ?_ | refine blk_alloc ?_ _)); refine blk_far ?_ NB148_154.out _; (with_reducible repeat (first | refine blk_drewN ?_ _ | refine blk_drew ?_ | refine blk_alloc ?_ _)); refine blk_far ?_ NB148_154.out _; (with_reducible repeat (first | refine blk_drewN ?_ _ | refine blk_drew ?_ | refine blk_alloc ?_ _)); exact BK148.out⟩
             have n1_ : Aside0 (((w78.setCell ⟨gb154, 0, none⟩ (.int .i64 ((rd_T41 l0_3 x3_2).f0))).setCell ⟨gb154, 1, none⟩ (.int .i64 ((rd_T41 l0_3 x3_2).f1))).heap[gb154]? = some (.cells #[.int .i64 ((rd_T41 l0_3 x3_2).f0), .int .i64 ((rd_T41 l0_3 x3_2).f1)] 41 (0, 0))) := ⟨by (with_reducible repeat (first | refine blk_drewN ?_ _ | refine blk_drew ?_ | refine blk_alloc ?_ _)); refine blk_put (cs := #[.int .i64 ((rd_T41 l0_3 x3_2).f0), .int .i64 0]) ?_ 1 _ rfl; (with_reducible repeat (first | refine blk_drewN ?_ _ | refine blk_drew ?_ | refine blk_alloc ?_ _)); refine blk_put (cs := #[.int .i64 0, .int .i64 0]) ?_ 0 _ rfl; (with_reducible repeat (first | refine blk_drewN ?_ _ | refine blk_drew ?_ | refine blk_alloc ?_ _)); exact BK154.out⟩
             have n2_ : Aside0 (Below w.heap.size w ((w78.setCell ⟨gb154, 0, none⟩ (.int .i64 ((rd_T41 l0_3 x3_2).f0))).setCell ⟨gb154, 1, none⟩ (.int .i64 ((rd_T41 l0_3 x3_2).f1)))) := ⟨by repeat (first | (with_reducible first | exact HB.out | apply below_alloc | apply pw_below_drewN | apply below_drew1 | refine below_set ?_ GE148.out | refine below_set ?_ GE154.out) | exact HB.out)⟩
             (try clear BK148)
             (try clear BK154)
             (try clear HB)
             generalize ((w78.setCell ⟨gb154, 0, none⟩ (.int .i64 ((rd_T41 l0_3 x3_2).f0))).setCell ⟨gb154, 1, none⟩ (.int .i64 ((rd_T41 l0_3 x3_2).f1))) = w81 at n0_ n1_ n2_ ⊢
             have BK148 := n0_
             have BK154 := n1_
             have HB := n2_
             clear n0_ n1_ n2_
             have n0_ := Aside0.mk (blk_drew BK148.out)
             have n1_ := Aside0.mk (blk_drew BK154.out)
             have n2_ := Aside0.mk (below_drew1 HB.out)
             clear BK148
             clear BK154
             clear HB
             have BK148 := n0_
             have BK154 := n1_
             have HB := n2_
             clear n0_ n1_ n2_
             refine start_ (n := 40) (S := fun w' => w'.cell? ⟨gb148, 0, none⟩ = some (.slice A0_0 l0_0.length c0_0) ∧ w'.cell? ⟨gb148, 1, none⟩ = some (.slice A0_1 l0_1.length c0_1) ∧ w'.cell? ⟨gb148, 2, none⟩ = some (.slice A0_2 l0_2.length c0_2) ∧ w'.cell? ⟨gb148, 3, none⟩ = some (.slice (some ad153) l0_3.length c0_3) ∧ w'.cell? ⟨gb148, 4, none⟩ = some (.int .i64 a0_4) ∧ w'.cell? ⟨gb154, 0, none⟩ = some (.int .i64 ((rd_T41 l0_3 x3_2).f0)) ∧ w'.cell? ⟨gb154, 1, none⟩ = some (.int .i64 ((rd_T41 l0_3 x3_2).f1))) (ds := []) spec_YardOk.bt0_ (by kernel_rfl) rfl rfl ⟨(blk_cell BK148.out 0).trans rfl, (blk_cell BK148.out 1).trans rfl, (blk_cell BK148.out 2).trans rfl, (blk_cell BK148.out 3).trans rfl, (blk_cell BK148.out 4).trans rfl, (blk_cell BK154.out 0).trans rfl, (blk_cell BK154.out 1).trans rfl⟩ (fun hHeld => ?_); refine with_tabW spec_YardOk.tab7 spec_YardOk.bits7 (fun HT_ HW_ => ?_)
             generalize w81.drew = w82 at BK148 BK154 HB hHeld ⊢
             refine pure_ (i := 0) (N := some 48) (v := ?_) (a' := ?_) spec_YardOk.bt1_ rfl rfl (any_of HT_.out (by kernel_rfl)) (fun _ _ _ h => h) (Or.inl ⟨by rfl, ?_⟩) ?_ ?_
             rotate_left
             ·intro w'
              go_simp
              with_reducible rfl
             rotate_left
             ·simp only [Act.put, sx_, sy_, sz_, i64_w, i32_w]
              rfl
             refine pure_ (i := 2) (N := some 50) (v := ?_) (a' := ?_) spec_YardOk.bt2_ rfl rfl (any_of HT_.out (by kernel_rfl)) (fun _ _ _ h => h) (Or.inl ⟨by rfl, ?_⟩) ?_ ?_
             rotate_left
             ·intro w'
              go_simp
              with_reducible rfl
             rotate_left
             ·simp only [Act.put, sx_, sy_, sz_, i64_w, i32_w]
              rfl
             refine take_ (i := 1) (N := some 49) (v := ?_) (a' := ?_) spec_YardOk.bt3_ rfl rfl (take_ofW HT_.out HW_.out (by kernel_rfl)) (fun _ _ _ h => h) (Or.inl ⟨by rfl, ?_⟩) hHeld ?_ ?_
             rotate_left
             ·rintro w' ⟨s0, s1, s2, s3, s4, s5, s6⟩
              go_simp
              with_reducible rfl
             rotate_left
             ·simp only [Act.put, sx_, sy_, sz_, i64_w, i32_w]
              rfl
             refine take_ (i := 3) (N := some 51) (v := ?_) (a' := ?_) spec_YardOk.bt4_ rfl rfl (take_ofW HT_.out HW_.out (by kernel_rfl)) (fun _ _ _ h => h) (Or.inl ⟨by rfl, ?_⟩) hHeld ?_ ?_
             rotate_left
             ·rintro w' ⟨s0, s1, s2, s3, s4, s5, s6⟩
              go_simp
              with_reducible rfl
             rotate_left
             ·simp only [Act.put, sx_, sy_, sz_, i64_w, i32_w]
              rfl
             refine one_ (i := 4) (N := some 52) spec_YardOk.bt5_ rfl rfl (one_of HT_.out (by kernel_rfl)) (by decide) (fun K hK => ?_)
             refine goes_ Try.func70 (by kernel_rfl) rfl #[.agg #[.slice A0_0 l0_0.length c0_0, .slice A0_1 l0_1.length c0_1], .int .i64 ((rd_T41 l0_3 x3_2).f0)] (by rfl) rfl rfl (by (try simp only [List.map_toArray, List.map_cons, List.map_nil]); first | done | rfl | (simp only [List.length_drop, List.length_take]; rfl)) ?_
             with_reducible refine (spec_Live.calls k2 _ _ l0_0 _ _ l0_1 ((rd_T41 l0_3 x3_2).f0) true _ ?side1 ?side2 ?side3 ?side4 A29.out).mono ?_
             (case side1 => exact (Kd.C_below HR0_0.out HB.out))
             (case side2 => exact HC0_0.out)
             (case side3 => exact (Kd.C_below HR0_1.out HB.out))
             (case side4 => exact HC0_1.out)
             rintro e w83 ⟨rfl, hb⟩
             refine ⟨_, rfl, ?_⟩
             have n0_ := Aside0.mk (blk_below (g := gb148) (o := .cells #[.slice A0_0 l0_0.length c0_0, .slice A0_1 l0_1.length c0_1, .slice A0_2 l0_2.length c0_2, .slice (some ad153) l0_3.length c0_3, .int .i64 a0_4] 30 (0, 0)) BK148.out hb)
             have n1_ := Aside0.mk (blk_below (g := gb154) (o := .cells #[.int .i64 ((rd_T41 l0_3 x3_2).f0), .int .i64 ((rd_T41 l0_3 x3_2).f1)] 41 (0, 0)) BK154.out hb)
             have n2_ := Aside0.mk (below_step (by repeat (first | (with_reducible first | exact HB.out | apply below_alloc | apply pw_below_drewN | apply below_drew1 | refine below_set ?_ GE148.out | refine below_set ?_ GE154.out) | exact HB.out)) hb)
             clear BK148
             clear BK154
             clear HB
             have BK148 := n0_
             have BK154 := n1_
             have HB := n2_
             clear n0_ n1_ n2_
             (try clear hb)
             (try clear hb2)
             (try clear hk)
             (try clear hi)
             refine hK.out _ _ ⟨(blk_cell BK148.out 0).trans rfl, (blk_cell BK148.out 1).trans rfl, (blk_cell BK148.out 2).trans rfl, (blk_cell BK148.out 3).trans rfl, (blk_cell BK148.out 4).trans rfl, (blk_cell BK154.out 0).trans rfl, (blk_cell BK154.out 1).trans rfl⟩ (fun hHeld => ?_)
             clear hK K
             refine norm_ (a' := ?_) ?_ ?_
             rotate_left
             ·show Act.put _ (some 52) _ = _
              simp only [Act.put, sx_, sy_, sz_, i64_w, i32_w]
              rfl
             refine pure_ (i := 5) (N := some 53) (v := ?_) (a' := ?_) spec_YardOk.bt6_ rfl rfl (any_of HT_.out (by kernel_rfl)) (fun _ _ _ h => h) (Or.inl ⟨by rfl, ?_⟩) ?_ ?_
             rotate_left
             ·intro w'
              go_simp
              with_reducible rfl
             rotate_left
             ·simp only [Act.put, sx_, sy_, sz_, i64_w, i32_w]
              rfl
             refine pure_ (i := 6) (N := some 54) (v := ?_) (a' := ?_) spec_YardOk.bt7_ rfl rfl (any_of HT_.out (by kernel_rfl)) (fun _ _ _ h => h) (Or.inl ⟨by rfl, ?_⟩) ?_ ?_
             rotate_left
             ·intro w'
              go_simp
              with_reducible rfl
             rotate_left
             ·simp only [Act.put, sx_, sy_, sz_, i64_w, i32_w]
              rfl
             refine pure_ (i := 7) (N := some 55) (v := ?_) (a' := ?_) spec_YardOk.bt8_ rfl rfl (any_of HT_.out (by kernel_rfl)) (fun _ _ _ h => h) (Or.inl ⟨by rfl, ?_⟩) ?_ ?_
             rotate_left
             ·intro w'
              go_simp
              with_reducible rfl
             rotate_left
             ·simp only [Act.put, sx_, sy_, sz_, i64_w, i32_w]
              rfl
             refine pure_ (i := 9) (N := some 57) (v := ?_) (a' := ?_) spec_YardOk.bt9_ rfl rfl (any_of HT_.out (by kernel_rfl)) (fun _ _ _ h => h) (Or.inl ⟨by rfl, ?_⟩) ?_ ?_
             rotate_left
             ·intro w'
              go_simp
              with_reducible rfl
             rotate_left
             ·simp only [Act.put, sx_, sy_, sz_, i64_w, i32_w]
              rfl
             refine take_ (i := 8) (N := some 56) (v := ?_) (a' := ?_) spec_YardOk.bt10_ rfl rfl (take_ofW HT_.out HW_.out (by kernel_rfl)) (fun _ _ _ h => h) (Or.inl ⟨by rfl, ?_⟩) hHeld ?_ ?_
             rotate_left
             ·rintro w' ⟨s0, s1, s2, s3, s4, s5, s6⟩
              go_simp
              with_reducible rfl
             rotate_left
             ·simp only [Act.put, sx_, sy_, sz_, i64_w, i32_w]
              rfl
             refine take_ (i := 10) (N := some 58) (v := ?_) (a' := ?_) spec_YardOk.bt11_ rfl rfl (take_ofW HT_.out HW_.out (by kernel_rfl)) (fun _ _ _ h => h) (Or.inl ⟨by rfl, ?_⟩) hHeld ?_ ?_
             rotate_left
             ·rintro w' ⟨s0, s1, s2, s3, s4, s5, s6⟩
              go_simp
              with_reducible rfl
             rotate_left
             ·simp only [Act.put, sx_, sy_, sz_, i64_w, i32_w]
              rfl
             refine one_ (i := 11) (N := some 59) spec_YardOk.bt12_ rfl rfl (one_of HT_.out (by kernel_rfl)) (by decide) (fun K hK => ?_)
             refine goes_ Try.func55 (by kernel_rfl) rfl #[.int .i64 ((rd_T41 l0_3 x3_2).f1), .int .i64 0, .int .i64 a0_4] (by rfl) rfl rfl (by (try simp only [List.map_toArray, List.map_cons, List.map_nil]); first | done | rfl | (simp only [List.length_drop, List.length_take]; rfl)) ?_
             with_reducible refine (spec_l1In.calls ((rd_T41 l0_3 x3_2).f1) 0 a0_4 true _ A31.out).mono ?_
             rintro e w' ⟨rfl, ⟨nd, rfl⟩⟩
             refine ⟨_, rfl, ?_⟩
             have q84 : (x3_2 : Int) ≤ ((l0_3.length : Int) : Int) := of_decide_eq_true (by first | (with_reducible assumption) | assumption)
             obtain ⟨i084, hi084, _, hsz84, _⟩ := info_parts info41
             have hroom84 : l0_3.length ≤ c0_3 := HC0_3.out
             have hC84 : Kd.C k41 _ (some ad153) l0_3.length l0_3 := HR0_3.out
             have hcut84 := cut_to (P := Try.prog) 28 41 .i64 Try.underlying28 hi084 (some ad153) l0_3.length c0_3 x3_2 (of_decide_eq_true (by first | (with_reducible assumption) | assumption)) q84 hroom84
             have hr84 := Kd.C_take (m := (x3_2 : Int).toNat) hC84 (by omega)
             have hy84 : y163.length = (x3_2 : Int).toNat := (by rw [Ny163.out, List.length_take]; omega)
             rw [← Ny163.out] at hr84
             rw [← hy84] at hcut84
             have HR166 := Aside0.mk hr84
             have HC166 := Aside0.mk (show y163.length ≤ c0_3 from by omega)
             clear hr84 hC84 hroom84 hi084 hsz84
             have KY84 := Aside0.mk hy84
             clear hy84
             replace q84 := eq_true q84
             refine hK.out _ _ ⟨(blk_cell BK148.out 0).trans rfl, (blk_cell BK148.out 1).trans rfl, (blk_cell BK148.out 2).trans rfl, (blk_cell BK148.out 3).trans rfl, (blk_cell BK148.out 4).trans rfl, (blk_cell BK154.out 0).trans rfl, (blk_cell BK154.out 1).trans rfl⟩ (fun hHeld => ?_)
             clear hK K
             refine norm_ (a' := ?_) ?_ ?_
             rotate_left
             ·show Act.put _ (some 59) _ = _
              simp only [Act.put, sx_, sy_, sz_, i64_w, i32_w]
              rfl
             refine pure_ (i := 12) (N := some 60) (v := ?_) (a' := ?_) spec_YardOk.bt13_ rfl rfl (any_of HT_.out (by kernel_rfl)) (fun _ _ _ h => h) (Or.inl ⟨by rfl, ?_⟩) ?_ ?_
             rotate_left
             ·intro w'
              go_simp
              with_reducible rfl
             rotate_left
             ·simp only [Act.put, sx_, sy_, sz_, i64_w, i32_w]
              rfl
             refine pure_ (i := 13) (N := some 61) (v := ?_) (a' := ?_) spec_YardOk.bt14_ rfl rfl (any_of HT_.out (by kernel_rfl)) (fun _ _ _ h => h) (Or.inl ⟨by rfl, ?_⟩) ?_ ?_
             rotate_left
             ·intro w'
              go_simp
              with_reducible rfl
             rotate_left
             ·simp only [Act.put, sx_, sy_, sz_, i64_w, i32_w]
              rfl
             refine pure_ (i := 14) (N := some 62) (v := ?_) (a' := ?_) spec_YardOk.bt15_ rfl rfl (any_of HT_.out (by kernel_rfl)) (fun _ _ _ h => h) (Or.inl ⟨by rfl, ?_⟩) ?_ ?_
             rotate_left
             ·intro w'
              go_simp
              with_reducible rfl
             rotate_left
             ·simp only [Act.put, sx_, sy_, sz_, i64_w, i32_w]
              rfl
             refine pure_ (i := 15) (N := some 63) (v := ?_) (a' := ?_) spec_YardOk.bt16_ rfl rfl (any_of HT_.out (by kernel_rfl)) (fun _ _ _ h => h) (Or.inl ⟨by rfl, ?_⟩) ?_ ?_
             rotate_left
             ·intro w'
              go_simp
              with_reducible rfl
             rotate_left
             ·simp only [Act.put, sx_, sy_, sz_, i64_w, i32_w]
              rfl
             refine pure_ (i := 16) (N := some 64) (v := ?_) (a' := ?_) spec_YardOk.bt17_ rfl rfl (any_of HT_.out (by kernel_rfl)) (fun _ _ _ h => h) (Or.inl ⟨by rfl, ?_⟩) ?_ ?_
             rotate_left
             ·intro w'
              go_simp
              with_reducible rfl
             rotate_left
             ·simp only [Act.put, sx_, sy_, sz_, i64_w, i32_w]
              rfl
             refine pure_ (i := 17) (N := some 65) (v := ?_) (a' := ?_) spec_YardOk.bt18_ rfl rfl (any_of HT_.out (by kernel_rfl)) (fun _ _ _ h => h) (Or.inl ⟨by rfl, ?_⟩) ?_ ?_
             rotate_left
             ·intro w'
              go_simp
              with_reducible rfl
             rotate_left
             ·simp only [Act.put, sx_, sy_, sz_, i64_w, i32_w]
              rfl
             refine pure_ (i := 18) (N := some 66) (v := undef) (a' := ?_) spec_YardOk.bt19_ rfl rfl (any_of HT_.out (by kernel_rfl)) (fun _ _ _ h => h) (Or.inr ⟨by rfl, rfl⟩) ?_ ?_
             rotate_left
             ·simp only [Act.put, sx_, sy_, sz_, i64_w, i32_w]
              rfl
             refine pure_ (i := 19) (N := some 67) (v := undef) (a' := ?_) spec_YardOk.bt44_ rfl rfl (any_of HT_.out (by kernel_rfl)) (fun _ _ _ h => h) (Or.inr ⟨by rfl, rfl⟩) ?_ ?_
             rotate_left
             ·simp only [Act.put, sx_, sy_, sz_, i64_w, i32_w]
              rfl
             refine pure_ (i := 20) (N := some 68) (v := undef) (a' := ?_) spec_YardOk.bt45_ rfl rfl (any_of HT_.out (by kernel_rfl)) (fun _ _ _ h => h) (Or.inr ⟨by rfl, rfl⟩) ?_ ?_
             rotate_left
             ·simp only [Act.put, sx_, sy_, sz_, i64_w, i32_w]
              rfl
             refine pure_ (i := 21) (N := some 69) (v := undef) (a' := ?_) spec_YardOk.bt46_ rfl rfl (any_of HT_.out (by kernel_rfl)) (fun _ _ _ h => h) (Or.inr ⟨by rfl, rfl⟩) ?_ ?_
             rotate_left
             ·simp only [Act.put, sx_, sy_, sz_, i64_w, i32_w]
              rfl
             refine pure_ (i := 22) (N := some 70) (v := undef) (a' := ?_) spec_YardOk.bt47_ rfl rfl (any_of HT_.out (by kernel_rfl)) (fun _ _ _ h => h) (Or.inr ⟨by rfl, rfl⟩) ?_ ?_
             rotate_left
             ·simp only [Act.put, sx_, sy_, sz_, i64_w, i32_w]
              rfl
             refine pure_ (i := 23) (N := some 71) (v := undef) (a' := ?_) spec_YardOk.bt48_ rfl rfl (any_of HT_.out (by kernel_rfl)) (fun _ _ _ h => h) (Or.inr ⟨by rfl, rfl⟩) ?_ ?_
             rotate_left
             ·simp only [Act.put, sx_, sy_, sz_, i64_w, i32_w]
              rfl
             refine pure_ (i := 24) (N := some 72) (v := undef) (a' := ?_) spec_YardOk.bt49_ rfl rfl (any_of HT_.out (by kernel_rfl)) (fun _ _ _ h => h) (Or.inr ⟨by rfl, rfl⟩) ?_ ?_
             rotate_left
             ·simp only [Act.put, sx_, sy_, sz_, i64_w, i32_w]
              rfl
             refine pure_ (i := 25) (N := some 73) (v := undef) (a' := ?_) spec_YardOk.bt26_ rfl rfl (any_of HT_.out (by kernel_rfl)) (fun _ _ _ h => h) (Or.inr ⟨by rfl, rfl⟩) ?_ ?_
             rotate_left
             ·simp only [Act.put, sx_, sy_, sz_, i64_w, i32_w]
              rfl
             refine pure_ (i := 26) (N := some 74) (v := undef) (a' := ?_) spec_YardOk.bt27_ rfl rfl (any_of HT_.out (by kernel_rfl)) (fun _ _ _ h => h) (Or.inr ⟨by rfl, rfl⟩) ?_ ?_
             rotate_left
             ·simp only [Act.put, sx_, sy_, sz_, i64_w, i32_w]
              rfl
             refine pure_ (i := 27) (N := some 75) (v := undef) (a' := ?_) spec_YardOk.bt28_ rfl rfl (any_of HT_.out (by kernel_rfl)) (fun _ _ _ h => h) (Or.inr ⟨by rfl, rfl⟩) ?_ ?_
             rotate_left
             ·simp only [Act.put, sx_, sy_, sz_, i64_w, i32_w]
              rfl
             refine pure_ (i := 28) (N := some 76) (v := ?_) (a' := ?_) spec_YardOk.bt29_ rfl rfl (any_of HT_.out (by kernel_rfl)) (fun _ _ _ h => h) (Or.inl ⟨by rfl, ?_⟩) ?_ ?_
             rotate_left
             ·intro w'
              go_simp
              with_reducible rfl
             rotate_left
             ·simp only [Act.put, sx_, sy_, sz_, i64_w, i32_w]
              rfl
             refine pure_ (i := 29) (N := some 77) (v := ?_) (a' := ?_) spec_YardOk.bt30_ rfl rfl (any_of HT_.out (by kernel_rfl)) (fun _ _ _ h => h) (Or.inl ⟨by rfl, ?_⟩) ?_ ?_
             rotate_left
             ·intro w'
              go_simp
              with_reducible rfl
             rotate_left
             ·simp only [Act.put, sx_, sy_, sz_, i64_w, i32_w]
              rfl
             refine pure_ (i := 30) (N := some 78) (v := ?_) (a' := ?_) spec_YardOk.bt31_ rfl rfl (any_of HT_.out (by kernel_rfl)) (fun _ _ _ h => h) (Or.inl ⟨by rfl, ?_⟩) ?_ ?_
             rotate_left
             ·intro w'
              go_simp
              with_reducible rfl
             rotate_left
             ·simp only [Act.put, sx_, sy_, sz_, i64_w, i32_w]
              rfl
             refine pure_ (i := 31) (N := some 79) (v := ?_) (a' := ?_) spec_YardOk.bt32_ rfl rfl (any_of HT_.out (by kernel_rfl)) (fun _ _ _ h => h) (Or.inl ⟨by rfl, ?_⟩) ?_ ?_
             rotate_left
             ·intro w'
              go_simp
              with_reducible rfl
             rotate_left
             ·simp only [Act.put, sx_, sy_, sz_, i64_w, i32_w]
              rfl
             refine pure_ (i := 33) (N := some 81) (v := ?_) (a' := ?_) spec_YardOk.bt41_ rfl rfl (any_of HT_.out (by kernel_rfl)) (fun _ _ _ h => h) (Or.inl ⟨by rfl, ?_⟩) ?_ ?_
             rotate_left
             ·intro w'
              go_simp
              with_reducible rfl
             rotate_left
             ·simp only [Act.put, sx_, sy_, sz_, i64_w, i32_w]
              rfl
             refine pure_ (i := 35) (N := some 83) (v := ?_) (a' := ?_) spec_YardOk.bt42_ rfl rfl (any_of HT_.out (by kernel_rfl)) (fun _ _ _ h => h) (Or.inl ⟨by rfl, ?_⟩) ?_ ?_
             rotate_left
             ·intro w'
              go_simp
              with_reducible rfl
             rotate_left
             ·simp only [Act.put, sx_, sy_, sz_, i64_w, i32_w]
              rfl
             refine take_ (i := 32) (N := some 80) (v := ?_) (a' := ?_) spec_YardOk.bt43_ rfl rfl (take_ofW HT_.out HW_.out (by kernel_rfl)) (fun _ _ _ h => h) (Or.inl ⟨by rfl, ?_⟩) hHeld ?_ ?_
             rotate_left
             ·rintro w' ⟨s0, s1, s2, s3, s4, s5, s6⟩
              go_simp
              with_reducible rfl
             rotate_left
             ·simp only [Act.put, sx_, sy_, sz_, i64_w, i32_w]
              rfl
             refine pure_ (i := 34) (N := some 82) (v := ?_) (a' := ?_) spec_YardOk.bt36_ rfl rfl (any_of HT_.out (by kernel_rfl)) (fun _ _ _ h => h) (Or.inl ⟨by rfl, ?_⟩) ?_ ?_
             rotate_left
             ·intro w'
              go_simp
              with_reducible rfl
             rotate_left
             ·simp only [Act.put, sx_, sy_, sz_, i64_w, i32_w]
              rfl
             refine take_ (i := 36) (N := some 84) (v := ?_) (a' := ?_) spec_YardOk.bt37_ rfl rfl (take_ofW HT_.out HW_.out (by kernel_rfl)) (fun _ _ _ h => h) (Or.inl ⟨by rfl, ?_⟩) hHeld ?_ ?_
             rotate_left
             ·rintro w' ⟨s0, s1, s2, s3, s4, s5, s6⟩
              go_simp
              with_reducible rfl
             rotate_left
             ·simp only [Act.put, sx_, sy_, sz_, i64_w, i32_w]
              rfl
             refine one_ (i := 37) (N := some 85) spec_YardOk.bt38_ rfl rfl (one_of HT_.out (by kernel_rfl)) (by decide) (fun K hK => ?_)
             refine goes_ Try.func71 (by kernel_rfl) rfl #[.slice (some ad153) y163.length c0_3, .int .i64 ((rd_T41 l0_3 x3_2).f0)] (by rfl) rfl rfl (by (try simp only [List.map_toArray, List.map_cons, List.map_nil]); first | done | rfl | (simp only [List.length_drop, List.length_take]; rfl)) ?_
             with_reducible refine (spec_l3Find.calls k2 _ _ y163 ((rd_T41 l0_3 x3_2).f0) t167 _ ?side1 ?side2 A67.out).mono ?_
             (case side1 => repeat (first | exact (Kd.C_below HR166.out (by repeat (first | (with_reducible first | exact HB.out | apply below_alloc | apply pw_below_drewN | apply below_drew1 | refine below_set ?_ GE148.out | refine below_set ?_ GE154.out) | exact HB.out))) | (with_reducible refine Kd.C_alloc ?_ _) | (with_reducible refine Kd.C_drewN ?_ _) | (with_reducible refine Kd.C_drew ?_)))
             (case side2 => exact HC166.out)
             rintro e w' ⟨rfl, ⟨nd, rfl⟩⟩
             refine ⟨_, rfl, ?_⟩
             refine hK.out _ _ ⟨(blk_cell BK148.out 0).trans rfl, (blk_cell BK148.out 1).trans rfl, (blk_cell BK148.out 2).trans rfl, (blk_cell BK148.out 3).trans rfl, (blk_cell BK148.out 4).trans rfl, (blk_cell BK154.out 0).trans rfl, (blk_cell BK154.out 1).trans rfl⟩ (fun hHeld => ?_)
             clear hK K
             refine norm_ (a' := ?_) ?_ ?_
             rotate_left
             ·show Act.put _ (some 85) _ = _
              simp only [Act.put, sx_, sy_, sz_, i64_w, i32_w]
              rfl
             refine pure_ (i := 38) (N := some 86) (v := ?_) (a' := ?_) spec_YardOk.bt39_ rfl rfl (any_of HT_.out (by kernel_rfl)) (fun _ _ _ h => h) (Or.inl ⟨by rfl, ?_⟩) ?_ ?_
             rotate_left
             ·intro w'
              go_simp
              with_reducible rfl
             rotate_left
             ·simp only [Act.put, sx_, sy_, sz_, i64_w, i32_w]
              rfl
             refine pure_ (i := 39) (N := some 87) (v := ?_) (a' := ?_) spec_YardOk.bt40_ rfl rfl (any_of HT_.out (by kernel_rfl)) (fun _ _ _ h => h) (Or.inl ⟨by rfl, ?_⟩) ?_ ?_
             rotate_left
             ·intro w'
              go_simp
              with_reducible rfl
             rotate_left
             ·simp only [Act.put, sx_, sy_, sz_, i64_w, i32_w]
              rfl
             refine done_ (done_of HT_.out (by kernel_rfl)) ?_
             try go_wp2
             go_roundg k2
             case measure => have := HJ1.out; have := HK2.out; omega
             case rel => exact ⟨(wrap64 (x3_2 + 1)), (by first | rfl | (simp; done) | (simp [*]; done)), H', ⟨by have := HJ1.out; have := HK2.out; omega⟩, ⟨BK148.out⟩, ⟨by repeat (first | (with_reducible first | exact HB.out | apply below_alloc | apply pw_below_drewN | apply below_drew1 | refine below_set ?_ GE148.out | refine below_set ?_ GE154.out) | exact HB.out)⟩⟩
           ·rw [if_neg c66] at H
            exact absurd H (by simp)
         ·replace c32 := Bool.eq_false_iff.mpr c32
          subst c32
          have H1 : (some false) = some r := by rw [if_neg (show ¬ (false = true) by decide)] at H; exact H
          clear H
          have H := H1
          clear H1
          obtain rfl := Option.some.inj H
          obtain ⟨hcz85_0, hcz85_1, hcz85_2, hcz85_3, hcz85_4, hfz85_0, hfz85_1, hfz85_2, hfz85_3, hfz85_4⟩ := cs5_ BK148.out
          have p153 : 0 ≤ (x3_2 : Int) := of_decide_eq_true (by first | (with_reducible assumption) | assumption)
          have q153 : x3_2 < (l0_3.length : Int) := of_decide_eq_true (by first | (with_reducible assumption) | assumption)
          obtain ⟨ad153, e153, hx153_0, hx153_1⟩ := at_T41 HR0_3.out x3_2 p153 q153
          cases e153
          replace hx153_0 := (HB.out.cell (World.block_lt_of_cell? w _ hx153_0)).trans hx153_0
          replace hx153_1 := (HB.out.cell (World.block_lt_of_cell? w _ hx153_1)).trans hx153_1
          replace p153 := eq_true p153
          replace q153 := eq_true q153
          try go_wp2_with (first | ((with_reducible refine gate_dst (N := 4) rfl ?_); (try (refine gate_guard (by rfl) ?_; dsimp only)); refine box_event ?hg (N := 4) ?hd (cs := #[.int .i64 0, .int .i64 0]) (t := 41) ?hr ?_; (case hd => rfl); (case hg => rfl); (case hr => first | (go_simp; done) | (go_simp; rfl)); intro gb154 hg w86 hbox hb; have n0_ := Aside0.mk (blk_below (g := gb148) (o := .cells #[.slice A0_0 l0_0.length c0_0, .slice A0_1 l0_1.length c0_1, .slice A0_2 l0_2.length c0_2, .slice (some ad153) l0_3.length c0_3, .int .i64 a0_4] 30 (0, 0)) BK148.out hb); have n1_ := Aside0.mk (below_step (by repeat (first | (with_reducible first | exact HB.out | apply below_alloc | apply pw_below_drewN | apply below_drew1 | refine below_set ?_ GE148.out) | exact HB.out)) hb); have n2_ := Aside0.mk (hbox); have n3_ := Aside0.mk ((by rw [hg]; exact (below_size (by repeat (first | (with_reducible first | exact HB.out | apply below_alloc | apply pw_below_drewN | apply below_drew1 | refine below_set ?_ GE148.out) | exact HB.out))) : w.heap.size ≤ gb154)); have n4_ := n3_; have n5_ := Aside0.mk ((by rw [hg]; exact Nat.ne_of_lt (blk_lt (g := gb148) (o := .cells #[.slice A0_0 l0_0.length c0_0, .slice A0_1 l0_1.length c0_1, .slice A0_2 l0_2.length c0_2, .slice (some ad153) l0_3.length c0_3, .int .i64 a0_4] 30 (0, 0)) BK148.out) : gb148 ≠ gb154)); have n6_ := Aside0.mk ((by rw [hg]; exact Nat.ne_of_gt (blk_lt (g := gb148) (o := .cells #[.slice A0_0 l0_0.length c0_0, .slice A0_1 l0_1.length c0_1, .slice A0_2 l0_2.length c0_2, .slice (some ad153) l0_3.length c0_3, .int .i64 a0_4] 30 (0, 0)) BK148.out) : gb154 ≠ gb148)); replace BK148 := n0_; replace HB := n1_; have BK154 := n2_; have GW154 := n3_; have GE154 := n4_; have NB148_154 := n5_; have NB154_148 := n6_; clear n0_ n1_ n2_ n3_ n4_ n5_ n6_; clear hb hbox hg; have hnb87 := NB154_148.out; have hnc87 := NB148_154.out; obtain ⟨hcz88_0, hcz88_1, hfz88_0, hfz88_1⟩ := cs2_ BK154.out))
          have n0_ : Aside0 (((w86.setCell ⟨gb154, 0, none⟩ (.int .i64 ((rd_T41 l0_3 x3_2).f0))).setCell ⟨gb154, 1, none⟩ (.int .i64 ((rd_T41 l0_3 x3_2).f1))).heap[gb148]? = some (.cells #[.slice A0_0 l0_0.length c0_0, .slice A0_1 l0_1.length c0_1, .slice A0_2 l0_2.length c0_2, .slice (some ad153) l0_3.length c0_3, .int .i64 a0_4] 30 (0, 0))) := ⟨by (with_reducible repeat (first | refine blk_drewN ?_ _ | refine blk_drew ?_ | refine blk_alloc ?_ _)); refine blk_far ?_ NB148_154.out _; (with_reducible repeat (first | refine blk_drewN ?_ _ | refine blk_drew ?_ | refine blk_alloc ?_ _)); refine blk_far ?_ NB148_154.out _; (with_reducible repeat (first | refine blk_drewN ?_ _ | refine blk_drew ?_ | refine blk_alloc ?_ _)); exact BK148.out⟩
          have n1_ : Aside0 (((w86.setCell ⟨gb154, 0, none⟩ (.int .i64 ((rd_T41 l0_3 x3_2).f0))).setCell ⟨gb154, 1, none⟩ (.int .i64 ((rd_T41 l0_3 x3_2).f1))).heap[gb154]? = some (.cells #[.int .i64 ((rd_T41 l0_3 x3_2).f0), .int .i64 ((rd_T41 l0_3 x3_2).f1)] 41 (0, 0))) := ⟨by (with_reducible repeat (first | refine blk_drewN ?_ _ | refine blk_drew ?_ | refine blk_alloc ?_ _)); refine blk_put (cs := #[.int .i64 ((rd_T41 l0_3 x3_2).f0), .int .i64 0]) ?_ 1 _ rfl; (with_reducible repeat (first | refine blk_drewN ?_ _ | refine blk_drew ?_ | refine blk_alloc ?_ _)); refine blk_put (cs := #[.int .i64 0, .int .i64 0]) ?_ 0 _ rfl; (with_reducible repeat (first | refine blk_drewN ?_ _ | refine blk_drew ?_ | refine blk_alloc ?_ _)); exact BK154.out⟩
          have n2_ : Aside0 (Below w.heap.size w ((w86.setCell ⟨gb154, 0, none⟩ (.int .i64 ((rd_T41 l0_3 x3_2).f0))).setCell ⟨gb154, 1, none⟩ (.int .i64 ((rd_T41 l0_3 x3_2).f1)))) := ⟨by repeat (first | (with_reducible first | exact HB.out | apply below_alloc | apply pw_below_drewN | apply below_drew1 | refine below_set ?_ GE148.out | refine below_set ?_ GE154.out) | exact HB.out)⟩
          (try clear BK148)
          (try clear BK154)
          (try clear HB)
          generalize ((w86.setCell ⟨gb154, 0, none⟩ (.int .i64 ((rd_T41 l0_3 x3_2).f0))).setCell ⟨gb154, 1, none⟩ (.int .i64 ((rd_T41 l0_3 x3_2).f1))) = w89 at n0_ n1_ n2_ ⊢
          have BK148 := n0_
          have BK154 := n1_
          have HB := n2_
          clear n0_ n1_ n2_
          have n0_ := Aside0.mk (blk_drew BK148.out)
          have n1_ := Aside0.mk (blk_drew BK154.out)
          have n2_ := Aside0.mk (below_drew1 HB.out)
          clear BK148
          clear BK154
          clear HB
          have BK148 := n0_
          have BK154 := n1_
          have HB := n2_
          clear n0_ n1_ n2_
          refine start_ (n := 40) (S := fun w' => w'.cell? ⟨gb148, 0, none⟩ = some (.slice A0_0 l0_0.length c0_0) ∧ w'.cell? ⟨gb148, 1, none⟩ = some (.slice A0_1 l0_1.length c0_1) ∧ w'.cell? ⟨gb148, 2, none⟩ = some (.slice A0_2 l0_2.length c0_2) ∧ w'.cell? ⟨gb148, 3, none⟩ = some (.slice (some ad153) l0_3.length c0_3) ∧ w'.cell? ⟨gb148, 4, none⟩ = some (.int .i64 a0_4) ∧ w'.cell? ⟨gb154, 0, none⟩ = some (.int .i64 ((rd_T41 l0_3 x3_2).f0)) ∧ w'.cell? ⟨gb154, 1, none⟩ = some (.int .i64 ((rd_T41 l0_3 x3_2).f1))) (ds := []) spec_YardOk.bt0_ (by kernel_rfl) rfl rfl ⟨(blk_cell BK148.out 0).trans rfl, (blk_cell BK148.out 1).trans rfl, (blk_cell BK148.out 2).trans rfl, (blk_cell BK148.out 3).trans rfl, (blk_cell BK148.out 4).trans rfl, (blk_cell BK154.out 0).trans rfl, (blk_cell BK154.out 1).trans rfl⟩ (fun hHeld => ?_); refine with_tabW spec_YardOk.tab7 spec_YardOk.bits7 (fun HT_ HW_ => ?_)
          generalize w89.drew = w90 at BK148 BK154 HB hHeld ⊢
          refine pure_ (i := 0) (N := some 48) (v := ?_) (a' := ?_) spec_YardOk.bt1_ rfl rfl (any_of HT_.out (by kernel_rfl)) (fun _ _ _ h => h) (Or.inl ⟨by rfl, ?_⟩) ?_ ?_
          rotate_left
          ·intro w'
           go_simp
           with_reducible rfl
          rotate_left
          ·simp only [Act.put, sx_, sy_, sz_, i64_w, i32_w]
           rfl
          refine pure_ (i := 2) (N := some 50) (v := ?_) (a' := ?_) spec_YardOk.bt2_ rfl rfl (any_of HT_.out (by kernel_rfl)) (fun _ _ _ h => h) (Or.inl ⟨by rfl, ?_⟩) ?_ ?_
          rotate_left
          ·intro w'
           go_simp
           with_reducible rfl
          rotate_left
          ·simp only [Act.put, sx_, sy_, sz_, i64_w, i32_w]
           rfl
          refine take_ (i := 1) (N := some 49) (v := ?_) (a' := ?_) spec_YardOk.bt3_ rfl rfl (take_ofW HT_.out HW_.out (by kernel_rfl)) (fun _ _ _ h => h) (Or.inl ⟨by rfl, ?_⟩) hHeld ?_ ?_
          rotate_left
          ·rintro w' ⟨s0, s1, s2, s3, s4, s5, s6⟩
           go_simp
           with_reducible rfl
          rotate_left
          ·simp only [Act.put, sx_, sy_, sz_, i64_w, i32_w]
           rfl
          refine take_ (i := 3) (N := some 51) (v := ?_) (a' := ?_) spec_YardOk.bt4_ rfl rfl (take_ofW HT_.out HW_.out (by kernel_rfl)) (fun _ _ _ h => h) (Or.inl ⟨by rfl, ?_⟩) hHeld ?_ ?_
          rotate_left
          ·rintro w' ⟨s0, s1, s2, s3, s4, s5, s6⟩
           go_simp
           with_reducible rfl
          rotate_left
          ·simp only [Act.put, sx_, sy_, sz_, i64_w, i32_w]
           rfl
          refine one_ (i := 4) (N := some 52) spec_YardOk.bt5_ rfl rfl (one_of HT_.out (by kernel_rfl)) (by decide) (fun K hK => ?_)
          refine goes_ Try.func70 (by kernel_rfl) rfl #[.agg #[.slice A0_0 l0_0.length c0_0, .slice A0_1 l0_1.length c0_1], .int .i64 ((rd_T41 l0_3 x3_2).f0)] (by rfl) rfl rfl (by (try simp only [List.map_toArray, List.map_cons, List.map_nil]); first | done | rfl | (simp only [List.length_drop, List.length_take]; rfl)) ?_
          with_reducible refine (spec_Live.calls k2 _ _ l0_0 _ _ l0_1 ((rd_T41 l0_3 x3_2).f0) true _ ?side1 ?side2 ?side3 ?side4 A29.out).mono ?_
          (case side1 => exact (Kd.C_below HR0_0.out HB.out))
          (case side2 => exact HC0_0.out)
          (case side3 => exact (Kd.C_below HR0_1.out HB.out))
          (case side4 => exact HC0_1.out)
          rintro e w91 ⟨rfl, hb⟩
          refine ⟨_, rfl, ?_⟩
          have n0_ := Aside0.mk (blk_below (g := gb148) (o := .cells #[.slice A0_0 l0_0.length c0_0, .slice A0_1 l0_1.length c0_1, .slice A0_2 l0_2.length c0_2, .slice (some ad153) l0_3.length c0_3, .int .i64 a0_4] 30 (0, 0)) BK148.out hb)
          have n1_ := Aside0.mk (blk_below (g := gb154) (o := .cells #[.int .i64 ((rd_T41 l0_3 x3_2).f0), .int .i64 ((rd_T41 l0_3 x3_2).f1)] 41 (0, 0)) BK154.out hb)
          have n2_ := Aside0.mk (below_step (by repeat (first | (with_reducible first | exact HB.out | apply below_alloc | apply pw_below_drewN | apply below_drew1 | refine below_set ?_ GE148.out | refine below_set ?_ GE154.out) | exact HB.out)) hb)
          clear BK148
          clear BK154
          clear HB
          have BK148 := n0_
          have BK154 := n1_
          have HB := n2_
          clear n0_ n1_ n2_
          (try clear hb)
          (try clear hb2)
          (try clear hk)
          (try clear hi)
          refine hK.out _ _ ⟨(blk_cell BK148.out 0).trans rfl, (blk_cell BK148.out 1).trans rfl, (blk_cell BK148.out 2).trans rfl, (blk_cell BK148.out 3).trans rfl, (blk_cell BK148.out 4).trans rfl, (blk_cell BK154.out 0).trans rfl, (blk_cell BK154.out 1).trans rfl⟩ (fun hHeld => ?_)
          clear hK K
          refine norm_ (a' := ?_) ?_ ?_
          rotate_left
          ·show Act.put _ (some 52) _ = _
           simp only [Act.put, sx_, sy_, sz_, i64_w, i32_w]
           rfl
          refine pure_ (i := 5) (N := some 53) (v := ?_) (a' := ?_) spec_YardOk.bt6_ rfl rfl (any_of HT_.out (by kernel_rfl)) (fun _ _ _ h => h) (Or.inl ⟨by rfl, ?_⟩) ?_ ?_
          rotate_left
          ·intro w'
           go_simp
           with_reducible rfl
          rotate_left
          ·simp only [Act.put, sx_, sy_, sz_, i64_w, i32_w]
           rfl
          refine pure_ (i := 6) (N := some 54) (v := ?_) (a' := ?_) spec_YardOk.bt7_ rfl rfl (any_of HT_.out (by kernel_rfl)) (fun _ _ _ h => h) (Or.inl ⟨by rfl, ?_⟩) ?_ ?_
          rotate_left
          ·intro w'
           go_simp
           with_reducible rfl
          rotate_left
          ·simp only [Act.put, sx_, sy_, sz_, i64_w, i32_w]
           rfl
          refine pure_ (i := 7) (N := some 55) (v := ?_) (a' := ?_) spec_YardOk.bt8_ rfl rfl (any_of HT_.out (by kernel_rfl)) (fun _ _ _ h => h) (Or.inl ⟨by rfl, ?_⟩) ?_ ?_
          rotate_left
          ·intro w'
           go_simp
           with_reducible rfl
          rotate_left
          ·simp only [Act.put, sx_, sy_, sz_, i64_w, i32_w]
           rfl
          refine pure_ (i := 9) (N := some 57) (v := ?_) (a' := ?_) spec_YardOk.bt9_ rfl rfl (any_of HT_.out (by kernel_rfl)) (fun _ _ _ h => h) (Or.inl ⟨by rfl, ?_⟩) ?_ ?_
          rotate_left
          ·intro w'
           go_simp
           with_reducible rfl
          rotate_left
          ·simp only [Act.put, sx_, sy_, sz_, i64_w, i32_w]
           rfl
          refine take_ (i := 8) (N := some 56) (v := ?_) (a' := ?_) spec_YardOk.bt10_ rfl rfl (take_ofW HT_.out HW_.out (by kernel_rfl)) (fun _ _ _ h => h) (Or.inl ⟨by rfl, ?_⟩) hHeld ?_ ?_
          rotate_left
          ·rintro w' ⟨s0, s1, s2, s3, s4, s5, s6⟩
           go_simp
           with_reducible rfl
          rotate_left
          ·simp only [Act.put, sx_, sy_, sz_, i64_w, i32_w]
           rfl
          refine take_ (i := 10) (N := some 58) (v := ?_) (a' := ?_) spec_YardOk.bt11_ rfl rfl (take_ofW HT_.out HW_.out (by kernel_rfl)) (fun _ _ _ h => h) (Or.inl ⟨by rfl, ?_⟩) hHeld ?_ ?_
          rotate_left
          ·rintro w' ⟨s0, s1, s2, s3, s4, s5, s6⟩
           go_simp
           with_reducible rfl
          rotate_left
          ·simp only [Act.put, sx_, sy_, sz_, i64_w, i32_w]
           rfl
          refine one_ (i := 11) (N := some 59) spec_YardOk.bt12_ rfl rfl (one_of HT_.out (by kernel_rfl)) (by decide) (fun K hK => ?_)
          refine goes_ Try.func55 (by kernel_rfl) rfl #[.int .i64 ((rd_T41 l0_3 x3_2).f1), .int .i64 0, .int .i64 a0_4] (by rfl) rfl rfl (by (try simp only [List.map_toArray, List.map_cons, List.map_nil]); first | done | rfl | (simp only [List.length_drop, List.length_take]; rfl)) ?_
          with_reducible refine (spec_l1In.calls ((rd_T41 l0_3 x3_2).f1) 0 a0_4 false _ A31.out).mono ?_
          rintro e w' ⟨rfl, ⟨nd, rfl⟩⟩
          refine ⟨_, rfl, ?_⟩
          refine hK.out _ _ ⟨(blk_cell BK148.out 0).trans rfl, (blk_cell BK148.out 1).trans rfl, (blk_cell BK148.out 2).trans rfl, (blk_cell BK148.out 3).trans rfl, (blk_cell BK148.out 4).trans rfl, (blk_cell BK154.out 0).trans rfl, (blk_cell BK154.out 1).trans rfl⟩ (fun hHeld => ?_)
          clear hK K
          refine norm_ (a' := ?_) ?_ ?_
          rotate_left
          ·show Act.put _ (some 59) _ = _
           simp only [Act.put, sx_, sy_, sz_, i64_w, i32_w]
           rfl
          refine pure_ (i := 12) (N := some 60) (v := ?_) (a' := ?_) spec_YardOk.bt13_ rfl rfl (any_of HT_.out (by kernel_rfl)) (fun _ _ _ h => h) (Or.inl ⟨by rfl, ?_⟩) ?_ ?_
          rotate_left
          ·intro w'
           go_simp
           with_reducible rfl
          rotate_left
          ·simp only [Act.put, sx_, sy_, sz_, i64_w, i32_w]
           rfl
          refine pure_ (i := 13) (N := some 61) (v := ?_) (a' := ?_) spec_YardOk.bt14_ rfl rfl (any_of HT_.out (by kernel_rfl)) (fun _ _ _ h => h) (Or.inl ⟨by rfl, ?_⟩) ?_ ?_
          rotate_left
          ·intro w'
           go_simp
           with_reducible rfl
          rotate_left
          ·simp only [Act.put, sx_, sy_, sz_, i64_w, i32_w]
           rfl
          refine pure_ (i := 14) (N := some 62) (v := ?_) (a' := ?_) spec_YardOk.bt15_ rfl rfl (any_of HT_.out (by kernel_rfl)) (fun _ _ _ h => h) (Or.inl ⟨by rfl, ?_⟩) ?_ ?_
          rotate_left
          ·intro w'
           go_simp
           with_reducible rfl
          rotate_left
          ·simp only [Act.put, sx_, sy_, sz_, i64_w, i32_w]
           rfl
          refine pure_ (i := 15) (N := some 63) (v := undef) (a' := ?_) spec_YardOk.bt16_ rfl rfl (any_of HT_.out (by kernel_rfl)) (fun _ _ _ h => h) (Or.inr ⟨by rfl, rfl⟩) ?_ ?_
          rotate_left
          ·simp only [Act.put, sx_, sy_, sz_, i64_w, i32_w]
           rfl
          refine pure_ (i := 16) (N := some 64) (v := undef) (a' := ?_) spec_YardOk.bt17_ rfl rfl (any_of HT_.out (by kernel_rfl)) (fun _ _ _ h => h) (Or.inr ⟨by rfl, rfl⟩) ?_ ?_
          rotate_left
          ·simp only [Act.put, sx_, sy_, sz_, i64_w, i32_w]
           rfl
          refine pure_ (i := 17) (N := some 65) (v := undef) (a' := ?_) spec_YardOk.bt18_ rfl rfl (any_of HT_.out (by kernel_rfl)) (fun _ _ _ h => h) (Or.inr ⟨by rfl, rfl⟩) ?_ ?_
          rotate_left
          ·simp only [Act.put, sx_, sy_, sz_, i64_w, i32_w]
           rfl
          refine pure_ (i := 18) (N := some 66) (v := undef) (a' := ?_) spec_YardOk.bt19_ rfl rfl (any_of HT_.out (by kernel_rfl)) (fun _ _ _ h => h) (Or.inr ⟨by rfl, rfl⟩) ?_ ?_
          rotate_left
          ·simp only [Act.put, sx_, sy_, sz_, i64_w, i32_w]
           rfl
          refine pure_ (i := 19) (N := some 67) (v := undef) (a' := ?_) spec_YardOk.bt44_ rfl rfl (any_of HT_.out (by kernel_rfl)) (fun _ _ _ h => h) (Or.inr ⟨by rfl, rfl⟩) ?_ ?_
          rotate_left
          ·simp only [Act.put, sx_, sy_, sz_, i64_w, i32_w]
           rfl
          refine pure_ (i := 20) (N := some 68) (v := undef) (a' := ?_) spec_YardOk.bt45_ rfl rfl (any_of HT_.out (by kernel_rfl)) (fun _ _ _ h => h) (Or.inr ⟨by rfl, rfl⟩) ?_ ?_
          rotate_left
          ·simp only [Act.put, sx_, sy_, sz_, i64_w, i32_w]
           rfl
          refine pure_ (i := 21) (N := some 69) (v := undef) (a' := ?_) spec_YardOk.bt46_ rfl rfl (any_of HT_.out (by kernel_rfl)) (fun _ _ _ h => h) (Or.inr ⟨by rfl, rfl⟩) ?_ ?_
          rotate_left
          ·simp only [Act.put, sx_, sy_, sz_, i64_w, i32_w]
           rfl
          refine pure_ (i := 22) (N := some 70) (v := undef) (a' := ?_) spec_YardOk.bt47_ rfl rfl (any_of HT_.out (by kernel_rfl)) (fun _ _ _ h => h) (Or.inr ⟨by rfl, rfl⟩) ?_ ?_
          rotate_left
          ·simp only [Act.put, sx_, sy_, sz_, i64_w, i32_w]
           rfl
          refine pure_ (i := 23) (N := some 71) (v := undef) (a' := ?_) spec_YardOk.bt48_ rfl rfl (any_of HT_.out (by kernel_rfl)) (fun _ _ _ h => h) (Or.inr ⟨by rfl, rfl⟩) ?_ ?_
          rotate_left
          ·simp only [Act.put, sx_, sy_, sz_, i64_w, i32_w]
           rfl
          refine pure_ (i := 24) (N := some 72) (v := undef) (a' := ?_) spec_YardOk.bt49_ rfl rfl (any_of HT_.out (by kernel_rfl)) (fun _ _ _ h => h) (Or.inr ⟨by rfl, rfl⟩) ?_ ?_
          rotate_left
          ·simp only [Act.put, sx_, sy_, sz_, i64_w, i32_w]
           rfl
          refine pure_ (i := 25) (N := some 73) (v := undef) (a' := ?_) spec_YardOk.bt26_ rfl rfl (any_of HT_.out (by kernel_rfl)) (fun _ _ _ h => h) (Or.inr ⟨by rfl, rfl⟩) ?_ ?_
          rotate_left
          ·simp only [Act.put, sx_, sy_, sz_, i64_w, i32_w]
           rfl
          refine pure_ (i := 26) (N := some 74) (v := undef) (a' := ?_) spec_YardOk.bt27_ rfl rfl (any_of HT_.out (by kernel_rfl)) (fun _ _ _ h => h) (Or.inr ⟨by rfl, rfl⟩) ?_ ?_
          rotate_left
          ·simp only [Act.put, sx_, sy_, sz_, i64_w, i32_w]
           rfl
          refine pure_ (i := 27) (N := some 75) (v := undef) (a' := ?_) spec_YardOk.bt28_ rfl rfl (any_of HT_.out (by kernel_rfl)) (fun _ _ _ h => h) (Or.inr ⟨by rfl, rfl⟩) ?_ ?_
          rotate_left
          ·simp only [Act.put, sx_, sy_, sz_, i64_w, i32_w]
           rfl
          refine pure_ (i := 28) (N := some 76) (v := undef) (a' := ?_) spec_YardOk.bt29_ rfl rfl (any_of HT_.out (by kernel_rfl)) (fun _ _ _ h => h) (Or.inr ⟨by rfl, rfl⟩) ?_ ?_
          rotate_left
          ·simp only [Act.put, sx_, sy_, sz_, i64_w, i32_w]
           rfl
          refine pure_ (i := 29) (N := some 77) (v := ?_) (a' := ?_) spec_YardOk.bt30_ rfl rfl (any_of HT_.out (by kernel_rfl)) (fun _ _ _ h => h) (Or.inl ⟨by rfl, ?_⟩) ?_ ?_
          rotate_left
          ·intro w'
           go_simp
           with_reducible rfl
          rotate_left
          ·simp only [Act.put, sx_, sy_, sz_, i64_w, i32_w]
           rfl
          refine pure_ (i := 30) (N := some 78) (v := ?_) (a' := ?_) spec_YardOk.bt31_ rfl rfl (any_of HT_.out (by kernel_rfl)) (fun _ _ _ h => h) (Or.inl ⟨by rfl, ?_⟩) ?_ ?_
          rotate_left
          ·intro w'
           go_simp
           with_reducible rfl
          rotate_left
          ·simp only [Act.put, sx_, sy_, sz_, i64_w, i32_w]
           rfl
          refine pure_ (i := 31) (N := some 79) (v := undef) (a' := ?_) spec_YardOk.bt32_ rfl rfl (any_of HT_.out (by kernel_rfl)) (fun _ _ _ h => h) (Or.inr ⟨by rfl, rfl⟩) ?_ ?_
          rotate_left
          ·simp only [Act.put, sx_, sy_, sz_, i64_w, i32_w]
           rfl
          refine pure_ (i := 32) (N := some 80) (v := undef) (a' := ?_) spec_YardOk.bt33_ rfl rfl (any_of HT_.out (by kernel_rfl)) (fun _ _ _ h => h) (Or.inr ⟨by rfl, rfl⟩) ?_ ?_
          rotate_left
          ·simp only [Act.put, sx_, sy_, sz_, i64_w, i32_w]
           rfl
          refine pure_ (i := 33) (N := some 81) (v := undef) (a' := ?_) spec_YardOk.bt34_ rfl rfl (any_of HT_.out (by kernel_rfl)) (fun _ _ _ h => h) (Or.inr ⟨by rfl, rfl⟩) ?_ ?_
          rotate_left
          ·simp only [Act.put, sx_, sy_, sz_, i64_w, i32_w]
           rfl
          refine pure_ (i := 34) (N := some 82) (v := undef) (a' := ?_) spec_YardOk.bt35_ rfl rfl (any_of HT_.out (by kernel_rfl)) (fun _ _ _ h => h) (Or.inr ⟨by rfl, rfl⟩) ?_ ?_
          rotate_left
          ·simp only [Act.put, sx_, sy_, sz_, i64_w, i32_w]
           rfl
          refine pure_ (i := 35) (N := some 83) (v := undef) (a' := ?_) spec_YardOk.bt36_ rfl rfl (any_of HT_.out (by kernel_rfl)) (fun _ _ _ h => h) (Or.inr ⟨by rfl, rfl⟩) ?_ ?_
          rotate_left
          ·simp only [Act.put, sx_, sy_, sz_, i64_w, i32_w]
           rfl
          refine pure_ (i := 36) (N := some 84) (v := undef) (a' := ?_) spec_YardOk.bt37_ rfl rfl (any_of HT_.out (by kernel_rfl)) (fun _ _ _ h => h) (Or.inr ⟨by rfl, rfl⟩) ?_ ?_
          rotate_left
          ·simp only [Act.put, sx_, sy_, sz_, i64_w, i32_w]
           rfl
          refine pure_ (i := 37) (N := some 85) (v := undef) (a' := ?_) spec_YardOk.bt38_ rfl rfl (any_of HT_.out (by kernel_rfl)) (fun _ _ _ h => h) (Or.inr ⟨by rfl, rfl⟩) ?_ ?_
          rotate_left
          ·simp only [Act.put, sx_, sy_, sz_, i64_w, i32_w]
           rfl
          refine pure_ (i := 38) (N := some 86) (v := undef) (a' := ?_) spec_YardOk.bt39_ rfl rfl (any_of HT_.out (by kernel_rfl)) (fun _ _ _ h => h) (Or.inr ⟨by rfl, rfl⟩) ?_ ?_
          rotate_left
          ·simp only [Act.put, sx_, sy_, sz_, i64_w, i32_w]
           rfl
          refine pure_ (i := 39) (N := some 87) (v := ?_) (a' := ?_) spec_YardOk.bt40_ rfl rfl (any_of HT_.out (by kernel_rfl)) (fun _ _ _ h => h) (Or.inl ⟨by rfl, ?_⟩) ?_ ?_
          rotate_left
          ·intro w'
           go_simp
           with_reducible rfl
          rotate_left
          ·simp only [Act.put, sx_, sy_, sz_, i64_w, i32_w]
           rfl
          refine done_ (done_of HT_.out (by kernel_rfl)) ?_
          try go_wp2
          go_ret
          exact ⟨by first | rfl | (simp [errW_none, errW_some] <;> rfl) | (simp [*, errW_none, errW_some] <;> rfl), by repeat (first | (with_reducible first | exact HB.out | apply below_alloc | apply pw_below_drewN | apply below_drew1 | refine below_set ?_ GE148.out | refine below_set ?_ GE154.out) | exact HB.out)⟩
        ·replace c30 := Bool.eq_false_iff.mpr c30
         subst c30
         have H1 : (some false) = some r := by rw [if_neg (show ¬ (false = true) by decide)] at H; exact H
         clear H
         have H := H1
         clear H1
         obtain rfl := Option.some.inj H
         obtain ⟨hcz92_0, hcz92_1, hcz92_2, hcz92_3, hcz92_4, hfz92_0, hfz92_1, hfz92_2, hfz92_3, hfz92_4⟩ := cs5_ BK148.out
         have p153 : 0 ≤ (x3_2 : Int) := of_decide_eq_true (by first | (with_reducible assumption) | assumption)
         have q153 : x3_2 < (l0_3.length : Int) := of_decide_eq_true (by first | (with_reducible assumption) | assumption)
         obtain ⟨ad153, e153, hx153_0, hx153_1⟩ := at_T41 HR0_3.out x3_2 p153 q153
         cases e153
         replace hx153_0 := (HB.out.cell (World.block_lt_of_cell? w _ hx153_0)).trans hx153_0
         replace hx153_1 := (HB.out.cell (World.block_lt_of_cell? w _ hx153_1)).trans hx153_1
         replace p153 := eq_true p153
         replace q153 := eq_true q153
         try go_wp2_with (first | ((with_reducible refine gate_dst (N := 4) rfl ?_); (try (refine gate_guard (by rfl) ?_; dsimp only)); refine box_event ?hg (N := 4) ?hd (cs := #[.int .i64 0, .int .i64 0]) (t := 41) ?hr ?_; (case hd => rfl); (case hg => rfl); (case hr => first | (go_simp; done) | (go_simp; rfl)); intro gb154 hg w93 hbox hb; have n0_ := Aside0.mk (blk_below (g := gb148) (o := .cells #[.slice A0_0 l0_0.length c0_0, .slice A0_1 l0_1.length c0_1, .slice A0_2 l0_2.length c0_2, .slice (some ad153) l0_3.length c0_3, .int .i64 a0_4] 30 (0, 0)) BK148.out hb); have n1_ := Aside0.mk (below_step (by repeat (first | (with_reducible first | exact HB.out | apply below_alloc | apply pw_below_drewN | apply below_drew1 | refine below_set ?_ GE148.out) | exact HB.out)) hb); have n2_ := Aside0.mk (hbox); have n3_ := Aside0.mk ((by rw [hg]; exact (below_size (by repeat (first | (with_reducible first | exact HB.out | apply below_alloc | apply pw_below_drewN | apply below_drew1 | refine below_set ?_ GE148.out) | exact HB.out))) : w.heap.size ≤ gb154)); have n4_ := n3_; have n5_ := Aside0.mk ((by rw [hg]; exact Nat.ne_of_lt (blk_lt (g := gb148) (o := .cells #[.slice A0_0 l0_0.length c0_0, .slice A0_1 l0_1.length c0_1, .slice A0_2 l0_2.length c0_2, .slice (some ad153) l0_3.length c0_3, .int .i64 a0_4] 30 (0, 0)) BK148.out) : gb148 ≠ gb154)); have n6_ := Aside0.mk ((by rw [hg]; exact Nat.ne_of_gt (blk_lt (g := gb148) (o := .cells #[.slice A0_0 l0_0.length c0_0, .slice A0_1 l0_1.length c0_1, .slice A0_2 l0_2.length c0_2, .slice (some ad153) l0_3.length c0_3, .int .i64 a0_4] 30 (0, 0)) BK148.out) : gb154 ≠ gb148)); replace BK148 := n0_; replace HB := n1_; have BK154 := n2_; have GW154 := n3_; have GE154 := n4_; have NB148_154 := n5_; have NB154_148 := n6_; clear n0_ n1_ n2_ n3_ n4_ n5_ n6_; clear hb hbox hg; have hnb94 := NB154_148.out; have hnc94 := NB148_154.out; obtain ⟨hcz95_0, hcz95_1, hfz95_0, hfz95_1⟩ := cs2_ BK154.out))
         have n0_ : Aside0 (((w93.setCell ⟨gb154, 0, none⟩ (.int .i64 ((rd_T41 l0_3 x3_2).f0))).setCell ⟨gb154, 1, none⟩ (.int .i64 ((rd_T41 l0_3 x3_2).f1))).heap[gb148]? = some (.cells #[.slice A0_0 l0_0.length c0_0, .slice A0_1 l0_1.length c0_1, .slice A0_2 l0_2.length c0_2, .slice (some ad153) l0_3.length c0_3, .int .i64 a0_4] 30 (0, 0))) := ⟨by (with_reducible repeat (first | refine blk_drewN ?_ _ | refine blk_drew ?_ | refine blk_alloc ?_ _)); refine blk_far ?_ NB148_154.out _; (with_reducible repeat (first | refine blk_drewN ?_ _ | refine blk_drew ?_ | refine blk_alloc ?_ _)); refine blk_far ?_ NB148_154.out _; (with_reducible repeat (first | refine blk_drewN ?_ _ | refine blk_drew ?_ | refine blk_alloc ?_ _)); exact BK148.out⟩
         have n1_ : Aside0 (((w93.setCell ⟨gb154, 0, none⟩ (.int .i64 ((rd_T41 l0_3 x3_2).f0))).setCell ⟨gb154, 1, none⟩ (.int .i64 ((rd_T41 l0_3 x3_2).f1))).heap[gb154]? = some (.cells #[.int .i64 ((rd_T41 l0_3 x3_2).f0), .int .i64 ((rd_T41 l0_3 x3_2).f1)] 41 (0, 0))) := ⟨by (with_reducible repeat (first | refine blk_drewN ?_ _ | refine blk_drew ?_ | refine blk_alloc ?_ _)); refine blk_put (cs := #[.int .i64 ((rd_T41 l0_3 x3_2).f0), .int .i64 0]) ?_ 1 _ rfl; (with_reducible repeat (first | refine blk_drewN ?_ _ | refine blk_drew ?_ | refine blk_alloc ?_ _)); refine blk_put (cs := #[.int .i64 0, .int .i64 0]) ?_ 0 _ rfl; (with_reducible repeat (first | refine blk_drewN ?_ _ | refine blk_drew ?_ | refine blk_alloc ?_ _)); exact BK154.out⟩
         have n2_ : Aside0 (Below w.heap.size w ((w93.setCell ⟨gb154, 0, none⟩ (.int .i64 ((rd_T41 l0_3 x3_2).f0))).setCell ⟨gb154, 1, none⟩ (.int .i64 ((rd_T41 l0_3 x3_2).f1)))) := ⟨by repeat (first | (with_reducible first | exact HB.out | apply below_alloc | apply pw_below_drewN | apply below_drew1 | refine below_set ?_ GE148.out | refine below_set ?_ GE154.out) | exact HB.out)⟩
         (try clear BK148)
         (try clear BK154)
         (try clear HB)
         generalize ((w93.setCell ⟨gb154, 0, none⟩ (.int .i64 ((rd_T41 l0_3 x3_2).f0))).setCell ⟨gb154, 1, none⟩ (.int .i64 ((rd_T41 l0_3 x3_2).f1))) = w96 at n0_ n1_ n2_ ⊢
         have BK148 := n0_
         have BK154 := n1_
         have HB := n2_
         clear n0_ n1_ n2_
         have n0_ := Aside0.mk (blk_drew BK148.out)
         have n1_ := Aside0.mk (blk_drew BK154.out)
         have n2_ := Aside0.mk (below_drew1 HB.out)
         clear BK148
         clear BK154
         clear HB
         have BK148 := n0_
         have BK154 := n1_
         have HB := n2_
         clear n0_ n1_ n2_
         refine start_ (n := 40) (S := fun w' => w'.cell? ⟨gb148, 0, none⟩ = some (.slice A0_0 l0_0.length c0_0) ∧ w'.cell? ⟨gb148, 1, none⟩ = some (.slice A0_1 l0_1.length c0_1) ∧ w'.cell? ⟨gb148, 2, none⟩ = some (.slice A0_2 l0_2.length c0_2) ∧ w'.cell? ⟨gb148, 3, none⟩ = some (.slice (some ad153) l0_3.length c0_3) ∧ w'.cell? ⟨gb148, 4, none⟩ = some (.int .i64 a0_4) ∧ w'.cell? ⟨gb154, 0, none⟩ = some (.int .i64 ((rd_T41 l0_3 x3_2).f0)) ∧ w'.cell? ⟨gb154, 1, none⟩ = some (.int .i64 ((rd_T41 l0_3 x3_2).f1))) (ds := []) spec_YardOk.bt0_ (by kernel_rfl) rfl rfl ⟨(blk_cell BK148.out 0).trans rfl, (blk_cell BK148.out 1).trans rfl, (blk_cell BK148.out 2).trans rfl, (blk_cell BK148.out 3).trans rfl, (blk_cell BK148.out 4).trans rfl, (blk_cell BK154.out 0).trans rfl, (blk_cell BK154.out 1).trans rfl⟩ (fun hHeld => ?_); refine with_tabW spec_YardOk.tab7 spec_YardOk.bits7 (fun HT_ HW_ => ?_)
         generalize w96.drew = w97 at BK148 BK154 HB hHeld ⊢
         refine pure_ (i := 0) (N := some 48) (v := ?_) (a' := ?_) spec_YardOk.bt1_ rfl rfl (any_of HT_.out (by kernel_rfl)) (fun _ _ _ h => h) (Or.inl ⟨by rfl, ?_⟩) ?_ ?_
         rotate_left
         ·intro w'
          go_simp
          with_reducible rfl
         rotate_left
         ·simp only [Act.put, sx_, sy_, sz_, i64_w, i32_w]
          rfl
         refine pure_ (i := 2) (N := some 50) (v := ?_) (a' := ?_) spec_YardOk.bt2_ rfl rfl (any_of HT_.out (by kernel_rfl)) (fun _ _ _ h => h) (Or.inl ⟨by rfl, ?_⟩) ?_ ?_
         rotate_left
         ·intro w'
          go_simp
          with_reducible rfl
         rotate_left
         ·simp only [Act.put, sx_, sy_, sz_, i64_w, i32_w]
          rfl
         refine take_ (i := 1) (N := some 49) (v := ?_) (a' := ?_) spec_YardOk.bt3_ rfl rfl (take_ofW HT_.out HW_.out (by kernel_rfl)) (fun _ _ _ h => h) (Or.inl ⟨by rfl, ?_⟩) hHeld ?_ ?_
         rotate_left
         ·rintro w' ⟨s0, s1, s2, s3, s4, s5, s6⟩
          go_simp
          with_reducible rfl
         rotate_left
         ·simp only [Act.put, sx_, sy_, sz_, i64_w, i32_w]
          rfl
         refine take_ (i := 3) (N := some 51) (v := ?_) (a' := ?_) spec_YardOk.bt4_ rfl rfl (take_ofW HT_.out HW_.out (by kernel_rfl)) (fun _ _ _ h => h) (Or.inl ⟨by rfl, ?_⟩) hHeld ?_ ?_
         rotate_left
         ·rintro w' ⟨s0, s1, s2, s3, s4, s5, s6⟩
          go_simp
          with_reducible rfl
         rotate_left
         ·simp only [Act.put, sx_, sy_, sz_, i64_w, i32_w]
          rfl
         refine one_ (i := 4) (N := some 52) spec_YardOk.bt5_ rfl rfl (one_of HT_.out (by kernel_rfl)) (by decide) (fun K hK => ?_)
         refine goes_ Try.func70 (by kernel_rfl) rfl #[.agg #[.slice A0_0 l0_0.length c0_0, .slice A0_1 l0_1.length c0_1], .int .i64 ((rd_T41 l0_3 x3_2).f0)] (by rfl) rfl rfl (by (try simp only [List.map_toArray, List.map_cons, List.map_nil]); first | done | rfl | (simp only [List.length_drop, List.length_take]; rfl)) ?_
         with_reducible refine (spec_Live.calls k2 _ _ l0_0 _ _ l0_1 ((rd_T41 l0_3 x3_2).f0) false _ ?side1 ?side2 ?side3 ?side4 A29.out).mono ?_
         (case side1 => exact (Kd.C_below HR0_0.out HB.out))
         (case side2 => exact HC0_0.out)
         (case side3 => exact (Kd.C_below HR0_1.out HB.out))
         (case side4 => exact HC0_1.out)
         rintro e w98 ⟨rfl, hb⟩
         refine ⟨_, rfl, ?_⟩
         have n0_ := Aside0.mk (blk_below (g := gb148) (o := .cells #[.slice A0_0 l0_0.length c0_0, .slice A0_1 l0_1.length c0_1, .slice A0_2 l0_2.length c0_2, .slice (some ad153) l0_3.length c0_3, .int .i64 a0_4] 30 (0, 0)) BK148.out hb)
         have n1_ := Aside0.mk (blk_below (g := gb154) (o := .cells #[.int .i64 ((rd_T41 l0_3 x3_2).f0), .int .i64 ((rd_T41 l0_3 x3_2).f1)] 41 (0, 0)) BK154.out hb)
         have n2_ := Aside0.mk (below_step (by repeat (first | (with_reducible first | exact HB.out | apply below_alloc | apply pw_below_drewN | apply below_drew1 | refine below_set ?_ GE148.out | refine below_set ?_ GE154.out) | exact HB.out)) hb)
         clear BK148
         clear BK154
         clear HB
         have BK148 := n0_
         have BK154 := n1_
         have HB := n2_
         clear n0_ n1_ n2_
         (try clear hb)
         (try clear hb2)
         (try clear hk)
         (try clear hi)
         refine hK.out _ _ ⟨(blk_cell BK148.out 0).trans rfl, (blk_cell BK148.out 1).trans rfl, (blk_cell BK148.out 2).trans rfl, (blk_cell BK148.out 3).trans rfl, (blk_cell BK148.out 4).trans rfl, (blk_cell BK154.out 0).trans rfl, (blk_cell BK154.out 1).trans rfl⟩ (fun hHeld => ?_)
         clear hK K
         refine norm_ (a' := ?_) ?_ ?_
         rotate_left
         ·show Act.put _ (some 52) _ = _
          simp only [Act.put, sx_, sy_, sz_, i64_w, i32_w]
          rfl
         refine pure_ (i := 5) (N := some 53) (v := ?_) (a' := ?_) spec_YardOk.bt6_ rfl rfl (any_of HT_.out (by kernel_rfl)) (fun _ _ _ h => h) (Or.inl ⟨by rfl, ?_⟩) ?_ ?_
         rotate_left
         ·intro w'
          go_simp
          with_reducible rfl
         rotate_left
         ·simp only [Act.put, sx_, sy_, sz_, i64_w, i32_w]
          rfl
         refine pure_ (i := 6) (N := some 54) (v := ?_) (a' := ?_) spec_YardOk.bt7_ rfl rfl (any_of HT_.out (by kernel_rfl)) (fun _ _ _ h => h) (Or.inl ⟨by rfl, ?_⟩) ?_ ?_
         rotate_left
         ·intro w'
          go_simp
          with_reducible rfl
         rotate_left
         ·simp only [Act.put, sx_, sy_, sz_, i64_w, i32_w]
          rfl
         refine pure_ (i := 7) (N := some 55) (v := undef) (a' := ?_) spec_YardOk.bt8_ rfl rfl (any_of HT_.out (by kernel_rfl)) (fun _ _ _ h => h) (Or.inr ⟨by rfl, rfl⟩) ?_ ?_
         rotate_left
         ·simp only [Act.put, sx_, sy_, sz_, i64_w, i32_w]
          rfl
         refine pure_ (i := 8) (N := some 56) (v := undef) (a' := ?_) spec_YardOk.bt50_ rfl rfl (any_of HT_.out (by kernel_rfl)) (fun _ _ _ h => h) (Or.inr ⟨by rfl, rfl⟩) ?_ ?_
         rotate_left
         ·simp only [Act.put, sx_, sy_, sz_, i64_w, i32_w]
          rfl
         refine pure_ (i := 9) (N := some 57) (v := undef) (a' := ?_) spec_YardOk.bt10_ rfl rfl (any_of HT_.out (by kernel_rfl)) (fun _ _ _ h => h) (Or.inr ⟨by rfl, rfl⟩) ?_ ?_
         rotate_left
         ·simp only [Act.put, sx_, sy_, sz_, i64_w, i32_w]
          rfl
         refine pure_ (i := 10) (N := some 58) (v := undef) (a' := ?_) spec_YardOk.bt11_ rfl rfl (any_of HT_.out (by kernel_rfl)) (fun _ _ _ h => h) (Or.inr ⟨by rfl, rfl⟩) ?_ ?_
         rotate_left
         ·simp only [Act.put, sx_, sy_, sz_, i64_w, i32_w]
          rfl
         refine pure_ (i := 11) (N := some 59) (v := undef) (a' := ?_) spec_YardOk.bt12_ rfl rfl (any_of HT_.out (by kernel_rfl)) (fun _ _ _ h => h) (Or.inr ⟨by rfl, rfl⟩) ?_ ?_
         rotate_left
         ·simp only [Act.put, sx_, sy_, sz_, i64_w, i32_w]
          rfl
         refine pure_ (i := 12) (N := some 60) (v := undef) (a' := ?_) spec_YardOk.bt13_ rfl rfl (any_of HT_.out (by kernel_rfl)) (fun _ _ _ h => h) (Or.inr ⟨by rfl, rfl⟩) ?_ ?_
         rotate_left
         ·simp only [Act.put, sx_, sy_, sz_, i64_w, i32_w]
          rfl
         refine pure_ (i := 13) (N := some 61) (v := ?_) (a' := ?_) spec_YardOk.bt14_ rfl rfl (any_of HT_.out (by kernel_rfl)) (fun _ _ _ h => h) (Or.inl ⟨by rfl, ?_⟩) ?_ ?_
         rotate_left
         ·intro w'
          go_simp
          with_reducible rfl
         rotate_left
         ·simp only [Act.put, sx_, sy_, sz_, i64_w, i32_w]
          rfl
         refine pure_ (i := 14) (N := some 62) (v := ?_) (a' := ?_) spec_YardOk.bt15_ rfl rfl (any_of HT_.out (by kernel_rfl)) (fun _ _ _ h => h) (Or.inl ⟨by rfl, ?_⟩) ?_ ?_
         rotate_left
         ·intro w'
          go_simp
          with_reducible rfl
         rotate_left
         ·simp only [Act.put, sx_, sy_, sz_, i64_w, i32_w]
          rfl
         refine pure_ (i := 15) (N := some 63) (v := undef) (a' := ?_) spec_YardOk.bt16_ rfl rfl (any_of HT_.out (by kernel_rfl)) (fun _ _ _ h => h) (Or.inr ⟨by rfl, rfl⟩) ?_ ?_
         rotate_left
         ·simp only [Act.put, sx_, sy_, sz_, i64_w, i32_w]
          rfl
         refine pure_ (i := 16) (N := some 64) (v := undef) (a' := ?_) spec_YardOk.bt17_ rfl rfl (any_of HT_.out (by kernel_rfl)) (fun _ _ _ h => h) (Or.inr ⟨by rfl, rfl⟩) ?_ ?_
         rotate_left
         ·simp only [Act.put, sx_, sy_, sz_, i64_w, i32_w]
          rfl
         refine pure_ (i := 17) (N := some 65) (v := undef) (a' := ?_) spec_YardOk.bt18_ rfl rfl (any_of HT_.out (by kernel_rfl)) (fun _ _ _ h => h) (Or.inr ⟨by rfl, rfl⟩) ?_ ?_
         rotate_left
         ·simp only [Act.put, sx_, sy_, sz_, i64_w, i32_w]
          rfl
         refine pure_ (i := 18) (N := some 66) (v := undef) (a' := ?_) spec_YardOk.bt19_ rfl rfl (any_of HT_.out (by kernel_rfl)) (fun _ _ _ h => h) (Or.inr ⟨by rfl, rfl⟩) ?_ ?_
         rotate_left
         ·simp only [Act.put, sx_, sy_, sz_, i64_w, i32_w]
          rfl
         refine pure_ (i := 19) (N := some 67) (v := undef) (a' := ?_) spec_YardOk.bt44_ rfl rfl (any_of HT_.out (by kernel_rfl)) (fun _ _ _ h => h) (Or.inr ⟨by rfl, rfl⟩) ?_ ?_
         rotate_left
         ·simp only [Act.put, sx_, sy_, sz_, i64_w, i32_w]
          rfl
         refine pure_ (i := 20) (N := some 68) (v := undef) (a' := ?_) spec_YardOk.bt45_ rfl rfl (any_of HT_.out (by kernel_rfl)) (fun _ _ _ h => h) (Or.inr ⟨by rfl, rfl⟩) ?_ ?_
         rotate_left
         ·simp only [Act.put, sx_, sy_, sz_, i64_w, i32_w]
          rfl
         refine pure_ (i := 21) (N := some 69) (v := undef) (a' := ?_) spec_YardOk.bt46_ rfl rfl (any_of HT_.out (by kernel_rfl)) (fun _ _ _ h => h) (Or.inr ⟨by rfl, rfl⟩) ?_ ?_
         rotate_left
         ·simp only [Act.put, sx_, sy_, sz_, i64_w, i32_w]
          rfl
         refine pure_ (i := 22) (N := some 70) (v := undef) (a' := ?_) spec_YardOk.bt47_ rfl rfl (any_of HT_.out (by kernel_rfl)) (fun _ _ _ h => h) (Or.inr ⟨by rfl, rfl⟩) ?_ ?_
         rotate_left
         ·simp only [Act.put, sx_, sy_, sz_, i64_w, i32_w]
          rfl
         refine pure_ (i := 23) (N := some 71) (v := undef) (a' := ?_) spec_YardOk.bt48_ rfl rfl (any_of HT_.out (by kernel_rfl)) (fun _ _ _ h => h) (Or.inr ⟨by rfl, rfl⟩) ?_ ?_
         rotate_left
         ·simp only [Act.put, sx_, sy_, sz_, i64_w, i32_w]
          rfl
         refine pure_ (i := 24) (N := some 72) (v := undef) (a' := ?_) spec_YardOk.bt49_ rfl rfl (any_of HT_.out (by kernel_rfl)) (fun _ _ _ h => h) (Or.inr ⟨by rfl, rfl⟩) ?_ ?_
         rotate_left
         ·simp only [Act.put, sx_, sy_, sz_, i64_w, i32_w]
          rfl
         refine pure_ (i := 25) (N := some 73) (v := undef) (a' := ?_) spec_YardOk.bt26_ rfl rfl (any_of HT_.out (by kernel_rfl)) (fun _ _ _ h => h) (Or.inr ⟨by rfl, rfl⟩) ?_ ?_
         rotate_left
         ·simp only [Act.put, sx_, sy_, sz_, i64_w, i32_w]
          rfl
         refine pure_ (i := 26) (N := some 74) (v := undef) (a' := ?_) spec_YardOk.bt27_ rfl rfl (any_of HT_.out (by kernel_rfl)) (fun _ _ _ h => h) (Or.inr ⟨by rfl, rfl⟩) ?_ ?_
         rotate_left
         ·simp only [Act.put, sx_, sy_, sz_, i64_w, i32_w]
          rfl
         refine pure_ (i := 27) (N := some 75) (v := undef) (a' := ?_) spec_YardOk.bt28_ rfl rfl (any_of HT_.out (by kernel_rfl)) (fun _ _ _ h => h) (Or.inr ⟨by rfl, rfl⟩) ?_ ?_
         rotate_left
         ·simp only [Act.put, sx_, sy_, sz_, i64_w, i32_w]
          rfl
         refine pure_ (i := 28) (N := some 76) (v := undef) (a' := ?_) spec_YardOk.bt29_ rfl rfl (any_of HT_.out (by kernel_rfl)) (fun _ _ _ h => h) (Or.inr ⟨by rfl, rfl⟩) ?_ ?_
         rotate_left
         ·simp only [Act.put, sx_, sy_, sz_, i64_w, i32_w]
          rfl
         refine pure_ (i := 29) (N := some 77) (v := ?_) (a' := ?_) spec_YardOk.bt30_ rfl rfl (any_of HT_.out (by kernel_rfl)) (fun _ _ _ h => h) (Or.inl ⟨by rfl, ?_⟩) ?_ ?_
         rotate_left
         ·intro w'
          go_simp
          with_reducible rfl
         rotate_left
         ·simp only [Act.put, sx_, sy_, sz_, i64_w, i32_w]
          rfl
         refine pure_ (i := 30) (N := some 78) (v := ?_) (a' := ?_) spec_YardOk.bt31_ rfl rfl (any_of HT_.out (by kernel_rfl)) (fun _ _ _ h => h) (Or.inl ⟨by rfl, ?_⟩) ?_ ?_
         rotate_left
         ·intro w'
          go_simp
          with_reducible rfl
         rotate_left
         ·simp only [Act.put, sx_, sy_, sz_, i64_w, i32_w]
          rfl
         refine pure_ (i := 31) (N := some 79) (v := undef) (a' := ?_) spec_YardOk.bt32_ rfl rfl (any_of HT_.out (by kernel_rfl)) (fun _ _ _ h => h) (Or.inr ⟨by rfl, rfl⟩) ?_ ?_
         rotate_left
         ·simp only [Act.put, sx_, sy_, sz_, i64_w, i32_w]
          rfl
         refine pure_ (i := 32) (N := some 80) (v := undef) (a' := ?_) spec_YardOk.bt33_ rfl rfl (any_of HT_.out (by kernel_rfl)) (fun _ _ _ h => h) (Or.inr ⟨by rfl, rfl⟩) ?_ ?_
         rotate_left
         ·simp only [Act.put, sx_, sy_, sz_, i64_w, i32_w]
          rfl
         refine pure_ (i := 33) (N := some 81) (v := undef) (a' := ?_) spec_YardOk.bt34_ rfl rfl (any_of HT_.out (by kernel_rfl)) (fun _ _ _ h => h) (Or.inr ⟨by rfl, rfl⟩) ?_ ?_
         rotate_left
         ·simp only [Act.put, sx_, sy_, sz_, i64_w, i32_w]
          rfl
         refine pure_ (i := 34) (N := some 82) (v := undef) (a' := ?_) spec_YardOk.bt35_ rfl rfl (any_of HT_.out (by kernel_rfl)) (fun _ _ _ h => h) (Or.inr ⟨by rfl, rfl⟩) ?_ ?_
         rotate_left
         ·simp only [Act.put, sx_, sy_, sz_, i64_w, i32_w]
          rfl
         refine pure_ (i := 35) (N := some 83) (v := undef) (a' := ?_) spec_YardOk.bt36_ rfl rfl (any_of HT_.out (by kernel_rfl)) (fun _ _ _ h => h) (Or.inr ⟨by rfl, rfl⟩) ?_ ?_
         rotate_left
         ·simp only [Act.put, sx_, sy_, sz_, i64_w, i32_w]
          rfl
         refine pure_ (i := 36) (N := some 84) (v := undef) (a' := ?_) spec_YardOk.bt37_ rfl rfl (any_of HT_.out (by kernel_rfl)) (fun _ _ _ h => h) (Or.inr ⟨by rfl, rfl⟩) ?_ ?_
         rotate_left
         ·simp only [Act.put, sx_, sy_, sz_, i64_w, i32_w]
          rfl
         refine pure_ (i := 37) (N := some 85) (v := undef) (a' := ?_) spec_YardOk.bt38_ rfl rfl (any_of HT_.out (by kernel_rfl)) (fun _ _ _ h => h) (Or.inr ⟨by rfl, rfl⟩) ?_ ?_
         rotate_left
         ·simp only [Act.put, sx_, sy_, sz_, i64_w, i32_w]
          rfl
         refine pure_ (i := 38) (N := some 86) (v := undef) (a' := ?_) spec_YardOk.bt39_ rfl rfl (any_of HT_.out (by kernel_rfl)) (fun _ _ _ h => h) (Or.inr ⟨by rfl, rfl⟩) ?_ ?_
         rotate_left
         ·simp only [Act.put, sx_, sy_, sz_, i64_w, i32_w]
          rfl
         refine pure_ (i := 39) (N := some 87) (v := ?_) (a' := ?_) spec_YardOk.bt40_ rfl rfl (any_of HT_.out (by kernel_rfl)) (fun _ _ _ h => h) (Or.inl ⟨by rfl, ?_⟩) ?_ ?_
         rotate_left
         ·intro w'
          go_simp
          with_reducible rfl
         rotate_left
         ·simp only [Act.put, sx_, sy_, sz_, i64_w, i32_w]
          rfl
         refine done_ (done_of HT_.out (by kernel_rfl)) ?_
         try go_wp2
         go_ret
         exact ⟨by first | rfl | (simp [errW_none, errW_some] <;> rfl) | (simp [*, errW_none, errW_some] <;> rfl), by repeat (first | (with_reducible first | exact HB.out | apply below_alloc | apply pw_below_drewN | apply below_drew1 | refine below_set ?_ GE148.out | refine below_set ?_ GE154.out) | exact HB.out)⟩
       ·rw [if_neg c28] at H
        exact absurd H (by simp)
      ·rw [if_neg c27] at H
       have c27b0 : decide (x3_2 < (l0_3.length : Int)) = false := decide_eq_false c27
       clear c27
       obtain rfl := Option.some.inj H
       obtain ⟨hcz99_0, hcz99_1, hcz99_2, hcz99_3, hcz99_4, hfz99_0, hfz99_1, hfz99_2, hfz99_3, hfz99_4⟩ := cs5_ BK148.out
       go_wp2
       go_ret
       exact ⟨by first | rfl | (simp [errW_none, errW_some] <;> rfl) | (simp [*, errW_none, errW_some] <;> rfl), by repeat (first | (with_reducible first | exact HB.out | apply below_alloc | apply pw_below_drewN | apply below_drew1 | refine below_set ?_ GE148.out) | exact HB.out)⟩


end Go.Proofs.Ytemdjfiimgjiaaa.M
