/- Words of the kit's print, those that the law FnSchedules needs. Conditions: those that each theorem states. -/
import Derived.Test.YtjbfcdeddnnnmaaDoorVFnSchedulesA0
import Derived.Test.YtjbfcdeddnnnmaaDoorShelf
import Derived.Laws.Rows
import Derived.Lib.SmallJoins
import Derived.Lib.AppendIntMem
section
set_option linter.unusedVariables false
set_option linter.unusedSimpArgs false
namespace Go.Proofs.YtjbfcdeddnnnmaaDoorW.PrintWords
open Go.RowKit

/-- What strconv.Itoa reads: the table of the powers of ten. -/
def GI (w : World) : Prop := Go.Lib.TabIs Tryd.prog w "internal/strconv.uint64pow10" .u64 Go.Lib.pow10Tab
theorem GI.on {w w1 : World} (h : GI w) (hb : Below w.heap.size w w1) : GI w1 := Go.Lib.tabBelow_of_tabIs h w1 hb
theorem cell_on {w w1 : World} {a : Addr} {v : Value} (h : w.cell? a = some v) (hb : Below w.heap.size w w1) : w1.cell? a = some v := by
  rw [hb.cell (block_lt_of_cell h)]
  exact h
/-- And what strings.Split and strconv.Atoi read: a whole number, two errors. -/
def GR (w : World) : Prop := GI w ∧ (∃ m, w.cell? ⟨1, 0, none⟩ = some (.int .i64 m)) ∧ (∃ ev, w.cell? ⟨2, 0, none⟩ = some ev ∧ (ev = .nilIface ∨ ∃ te pe, ev = .iface te pe)) ∧ (∃ ev, w.cell? ⟨3, 0, none⟩ = some ev ∧ (ev = .nilIface ∨ ∃ te pe, ev = .iface te pe))
theorem GR.gi {w : World} (h : GR w) : GI w := h.1
theorem GR.on {w w1 : World} (h : GR w) (hb : Below w.heap.size w w1) : GR w1 := by
  obtain ⟨h0, ⟨m, h1⟩, ⟨v2, h2, e2⟩, ⟨v3, h3, e3⟩⟩ := h
  exact ⟨h0.on hb, ⟨m, cell_on h1 hb⟩, ⟨v2, cell_on h2 hb, e2⟩, ⟨v3, cell_on h3 hb, e3⟩⟩
theorem ground {w : World} {t2 t3 : TypeId} {p2 p3 : Value} (hI : GI w) (h : w.ShapedOpen Tryd.prog) (h2 : w.var? Tryd.prog "strconv.ErrSyntax" = some #[.iface t2 p2]) (h3 : w.var? Tryd.prog "strconv.ErrRange" = some #[.iface t3 p3]) : GR w := by
  refine ⟨hI, Go.Proofs.cell_of_shapedOpen_int (zero := #[.int .i64 0]) (t := 3) h (of_decide_eq_true (by kernel_rfl)) (by kernel_rfl) rfl (by kernel_rfl) (by kernel_rfl) Tryd.underlying3, ⟨.iface t2 p2, ?_, Or.inr ⟨_, _, rfl⟩⟩, ⟨.iface t3 p3, ?_, Or.inr ⟨_, _, rfl⟩⟩⟩
  · have h0 := World.var?_cell (g := 2) (by kernel_rfl) h2 0
    simpa using h0
  · have h0 := World.var?_cell (g := 3) (by kernel_rfl) h3 0
    simpa using h0
theorem spot_none {w : World} {a : Addr} {v : Value} (h : w.cell? a = some v) : a = ⟨a.block, a.off, none⟩ := by
  obtain ⟨b, o, s⟩ := a
  cases s with
  | none => rfl
  | some s =>
    exfalso
    unfold World.cell? at h
    split at h
    · simp at h
    · cases h
theorem join_call {A0 : Option Addr} {c0 : Nat} {l0 : List ByteArray} {a1 : ByteArray} {w : World} (hr0 : Kd.C Kd.string w A0 l0.length l0) (hc0 : l0.length ≤ c0) (h0 : l0.length ≤ 1000) (h1 : (Go.Lib.join (l0.map (·.data.toList)) a1.data.toList).length ≤ 1000000) :
    Calls Tryd.prog 24 #[.slice A0 l0.length c0, .string a1] w fun e w' => e = .returned (.string ⟨(Go.Lib.join (l0.map (·.data.toList)) a1.data.toList).toArray⟩) ∧ Below w.heap.size w w' := by
  cases hl : l0 with
  | nil =>
    refine (Tryd.strings_Join_none A0 c0 a1 w).mono ?_
    rintro e w' ⟨rfl, rfl⟩
    exact ⟨rfl, Below.refl _ _⟩
  | cons x r =>
    rw [← hl]
    obtain ⟨_, _, hx⟩ := hr0
    obtain ⟨ad, rfl, hc⟩ := hx (by rw [hl]; simp)
    have hcell : ∀ (j : Nat) y, l0[j]? = some y → w.cell? (ad.add j) = some (.string y) := by
      intro j y hj
      obtain ⟨c, _, hk, hcs⟩ := hc j y hj
      have hk' : c = [.string y] := hk
      subst hk'
      have := hcs 0 (.string y) rfl
      have e1 : j * Kd.string.sz + 0 = j := by
        show j * 1 + 0 = j
        omega
      rwa [e1] at this
    have h00 := hcell 0 x (by rw [hl]; rfl)
    have had : ad = ⟨ad.block, ad.off, none⟩ := spot_none (a := ad) (v := .string x) (by simpa [Addr.add] using h00)
    have hblk : ad.block < w.heap.size := block_lt_of_cell (a := ad) (v := .string x) (by simpa [Addr.add] using h00)
    rw [had]
    refine Tryd.strings_Join ad.block ad.off c0 l0 a1 w ?_ hblk (by omega) hc0 (by omega)
    intro j y hj
    have hj' := hcell j y hj
    have e2 : ad.add j = ⟨ad.block, ad.off + j, none⟩ := by
      unfold Addr.add
      by_cases hz : j = 0
      · subst hz
        rw [if_pos rfl]
        exact had
      · rw [if_neg hz]
    rwa [e2] at hj'
theorem split_call {a0 a1 : ByteArray} {w : World} (h0 : a0.size ≤ 1000000) (h1 : 1 ≤ a1.size) (hG : GR w) :
    Calls Tryd.prog 27 #[.string a0, .string a1] w fun e w' => ∃ v0_ : Value, e = .returned (v0_) ∧ Kd.R Kd.string 9 w' w.heap.size (fun _ => True) v0_ (Go.Lib.splitB a1 0 (Go.Lib.countB a0 a1) a0) ∧ Below w.heap.size w w' := by
  obtain ⟨_, ⟨m, hm⟩, _⟩ := hG
  refine (Tryd.strings_Split a0 a1 m w (by omega) hm h1).mono ?_
  rintro e w' ⟨rfl, rfl⟩
  have hlen : (Go.Lib.splitB a1 0 (Go.Lib.countB a0 a1) a0).length = Go.Lib.countB a0 a1 + 1 := Go.Lib.splitB_all a1 h1 0 _ a0 rfl
  have hle := Go.Lib.countB_le a1 h1 a0.size a0 (Nat.le_refl _)
  refine ⟨_, rfl, ⟨fun k _ => trivial, (Go.Lib.splitB a1 0 (Go.Lib.countB a0 a1) a0).map Value.string, ?_, Kd.reps_scalar (enc := Value.string) _⟩, below_alloc (Below.refl _ _) _⟩
  refine ⟨by rw [List.length_map]; show _ = _ * 1; omega, Or.inr ⟨w.heap.size, Go.Lib.countB a0 a1 + 1, _, by rw [hlen], Nat.le_refl _, blk_new w _, by omega, by simp only [maxLen]; omega, ?_, ?_⟩⟩
  · simp [hlen, Kd.string, Kd.scalar]
  · rw [List.take_of_length_le]
    simp [Kd.string, Kd.scalar]
theorem atoi_none {a0 : ByteArray} {v : Int} {w : World} (h0 : a0.size ≤ 1000000) (h : Go.Lib.atoiAll a0.data.toList = .ok v) :
    Calls Tryd.prog 39 #[.string a0] w fun e w' => e = .returned (.tuple #[.int .i64 v, .nilIface]) ∧ Below w.heap.size w w' := by
  refine (Tryd.strconv_Atoi_ok a0 (by omega) v h w).mono ?_
  rintro e w' ⟨rfl, hw⟩
  refine ⟨rfl, ?_⟩
  rcases hw with rfl | ⟨t, rfl⟩
  · exact Below.refl _ _
  · exact Go.Joins.below_bytesWorld _ w 5 t (Nat.le_refl _)
theorem atoi_syntax {a0 : ByteArray} {w : World} (h0 : a0.size ≤ 1000000) (h : Go.Lib.atoiAll a0.data.toList = .«syntax») (hG : GR w) :
    Calls Tryd.prog 39 #[.string a0] w fun e w' => (∃ N, e = .returned (.tuple #[.int .i64 0, .iface 94 (.pointer (some ⟨N, 0, none⟩))])) ∧ Below w.heap.size w w' := by
  obtain ⟨_, _, ⟨ev, h2, e2⟩, _⟩ := hG
  refine (Tryd.strconv_Atoi_syntax a0 (by omega) h ev w h2 e2).mono ?_
  rintro e w' ⟨N, rfl, _, _, hb⟩
  exact ⟨⟨N, rfl⟩, hb⟩
theorem atoi_range {a0 : ByteArray} {w : World} (h0 : a0.size ≤ 1000000) (h : Go.Lib.atoiAll a0.data.toList = .range) (hG : GR w) :
    Calls Tryd.prog 39 #[.string a0] w fun e w' => (∃ N, e = .returned (.tuple #[.int .i64 (Go.Lib.atoiSat a0.data.toList), .iface 94 (.pointer (some ⟨N, 0, none⟩))])) ∧ Below w.heap.size w w' := by
  obtain ⟨_, _, _, ⟨ev, h3, e3⟩⟩ := hG
  refine (Tryd.strconv_Atoi_range a0 (by omega) h ev w h3 e3).mono ?_
  rintro e w' ⟨N, rfl, _, _, hb⟩
  exact ⟨⟨N, rfl⟩, hb⟩

end Go.Proofs.YtjbfcdeddnnnmaaDoorW.PrintWords
end
section
namespace Go.Proofs.YtjbfcdeddnnnmaaDoor.Opn
open Go.RowKit Go.ChangeShapes Go.WideShapes Go.Proofs.YtjbfcdeddnnnmaaDoorW.PrintWords

/-- Whatever is read at type t holds a value of kind d, and p is true of it. -/
def Opn {α : Type} (P : Program) (t : TypeId) (d : Kd α) (p : α → Prop) : Prop :=
  ∀ (H : Type) (enc : TypeId × Value → H) (w : World) (fuel : Nat) (cs : List Value) (x : DataW H × List MemPlace),
    DataW.trod enc P w 0 (fun _ => true) true fuel t cs = some x → ∃ a, d.K w a cs ∧ p a

theorem opn_int {P : Program} {t : TypeId} {k : IntKind} (ht : P.underlying t = some (.int k)) : Opn P t (Kd.int k) (fun n => (Lit.int k n).wf = true) := by
  intro H enc w fuel cs x h
  obtain ⟨n, rfl, _, hw⟩ := DataW.trod_int ht h
  exact ⟨n, rfl, hw⟩

theorem list_of {α : Type} {R : Nat → α → Prop} : ∀ n, (∀ i, i < n → ∃ q, R i q) → ∃ l : List α, l.length = n ∧ ∀ (j : Nat) q, l[j]? = some q → R j q
  | 0, _ => ⟨[], rfl, fun j q h => by simp at h⟩
  | n + 1, h => by
    obtain ⟨l, hl, hr⟩ := list_of n (fun i hi => h i (Nat.lt_succ_of_lt hi))
    obtain ⟨q, hq⟩ := h n (Nat.lt_succ_self n)
    refine ⟨l ++ [q], by simp [hl], fun j r hj => ?_⟩
    rcases Nat.lt_or_ge j l.length with hlt | hge
    · rw [List.getElem?_append_left hlt] at hj
      exact hr j r hj
    · have h1 := (List.getElem?_eq_some_iff.1 hj).1
      simp at h1
      have e : j = n := by omega
      subst e
      rw [List.getElem?_append_right hge] at hj
      rw [hl] at hj
      simp at hj
      subst hj
      exact hq

theorem addr_add_add (a : Addr) (i j : Nat) : (a.add i).add j = a.add (i + j) := by
  unfold Addr.add
  by_cases hi : i = 0 <;> by_cases hj : j = 0 <;> simp [hi, hj, Nat.add_assoc]

theorem opn_slice {α : Type} {P : Program} {t e : TypeId} {d : Kd α} {p : α → Prop} (ht : P.underlying t = some (.slice e)) (hc : P.cellsOf e = d.sz) (he : Opn P e d p) :
    Opn P t (Kd.slice e d) (fun l => l.length ≤ maxLen ∧ ∀ x ∈ l, p x) := by
  intro H enc w fuel cs x h
  rcases DataW.trod_slice ht h with ⟨rfl, _⟩ | ⟨a, len, cap, elems, rest, n, _, rfl, _, _, hl, hm, hlen, hel, _, _⟩
  · exact ⟨[], ⟨none, 0, rfl, Nat.le_refl _, ⟨rfl, Nat.zero_le _, fun h => absurd h (by simp)⟩⟩, by simp, by simp⟩
  · have each : ∀ i, i < len → ∃ q : α, p q ∧ ∃ c, c.length = d.sz ∧ d.K w q c ∧ ∀ (j : Nat) u, c[j]? = some u → w.cell? (a.add (i * d.sz + j)) = some u := by
      intro i hi
      have h1 := hel i hi
      rw [List.getElem?_eq_getElem (by omega)] at h1
      obtain ⟨c, hc1, hc2⟩ := Option.bind_eq_some_iff.1 h1
      obtain ⟨q, hk, hp⟩ := he _ _ _ _ _ _ hc2
      rw [hc] at hc1
      obtain ⟨_, hcl, hcc⟩ := World.cells?_some hc1
      refine ⟨q, hp, c, hcl, hk, fun j u hu => ?_⟩
      have hj : j < d.sz := by
        have := (List.getElem?_eq_some_iff.1 hu).1
        omega
      rw [← addr_add_add, hcc j hj, hu]
    obtain ⟨l, hll, hr⟩ := list_of len each
    have hml : len ≤ maxLen := Nat.le_trans hl hm
    refine ⟨l, ⟨some a, cap, by rw [hll], by omega, ?_⟩, by omega, fun q hq => ?_⟩
    · refine ⟨rfl, ?_, fun _ => ⟨a, rfl, fun j q hj => ?_⟩⟩
      · rw [hll]
        exact hml
      · obtain ⟨_, c, h1, h2, h3⟩ := hr j q hj
        exact ⟨c, h1, h2, h3⟩
    · obtain ⟨j, hj⟩ := List.getElem?_of_mem hq
      exact (hr j q hj).1

theorem pair_of {α β : Type} {a : Kd α} {b : Kd β} {w : World} {x : α} {y : β} {cs : List Value} (s : Nat) (h0 : a.K w x (cs.take s)) (h1 : b.K w y (cs.drop s)) : (Kd.pair a b).K w (x, y) cs :=
  ⟨_, _, (List.take_append_drop s cs).symm, h0, h1⟩

theorem last_of {α : Type} {a : Kd α} {w : World} {x : α} {cs : List Value} (s : Nat) (hs : cs.length ≤ s) (h : a.K w x (cs.take s)) : a.K w x cs := by
  rwa [List.take_of_length_le hs] at h

/-- A slice that came in, opened. -/
theorem open_row {α : Type} {P : Program} {t e : TypeId} {d : Kd α} {p : List α → Prop} (ho : Opn P t (Kd.slice e d) p) {H : Type} {enc : TypeId × Value → H} {w : World} {a : Option Addr} {len cap : Nat} {y : DataW H} {ps : List MemPlace}
    (h : DataW.Trod enc P w 0 (fun _ => true) true t (.slice a len cap) y ps) : ∃ l : List α, l.length = len ∧ len ≤ cap ∧ d.C w a len l ∧ p l := by
  obtain ⟨fuel, hf⟩ := h
  obtain ⟨l, ⟨A, c, hcs, hlc, hC⟩, hp⟩ := ho _ _ _ _ _ _ hf
  simp only [Value.cells] at hcs
  injection hcs with hcs _
  injection hcs with h1 h2 h3
  subst h1 h2 h3
  exact ⟨l, rfl, hlc, hC, hp⟩

end Go.Proofs.YtjbfcdeddnnnmaaDoor.Opn
end
section
namespace Go.Proofs.YtjbfcdeddnnnmaaDoorW.PrintLast
open Go.Proofs.YtjbfcdeddnnnmaaDoorW.PrintWords (Aside0)
section
variable {md : Region.Mode} {ops : Array Oper} {T : Bool × List (List Nat × List Nat)} {l l' li lj lk : Array Bool} {ds : List Nat} {i j k : Nat}
end
end Go.Proofs.YtjbfcdeddnnnmaaDoorW.PrintLast
end
section
namespace Go.Proofs.YtjbfcdeddnnnmaaDoorW.PrintLast
section
variable {P : Program} {ops : Array Oper} {Q : Exit → Act → World → Prop} {md : Region.Mode} {S : World → Prop} {ds : List Nat} {T : Bool × List (List Nat × List Nat)}
end
end Go.Proofs.YtjbfcdeddnnnmaaDoorW.PrintLast
end
section
namespace Go.Proofs.YtjbfcdeddnnnmaaDoorW.PrintWords
open Go.RowKit
namespace Kd
section
variable {α : Type} {d : Kd α} {W : World} {g n : Nat} {S ok : Nat → Prop} {A : Option Addr} {ad : Addr} {xs : List α}
end
end Kd
end Go.Proofs.YtjbfcdeddnnnmaaDoorW.PrintWords
end
section
namespace Go.Proofs.YtjbfcdeddnnnmaaDoorW.PrintWords
open Go.RowKit
section
variable {w w' u : World} {m B g : Nat} {o : Obj} {row : Option Nat} {S : Nat → Prop} {a : Addr} {v : Value}
end
namespace Kd
section
variable {α : Type} {d : Kd α} {e base n m : Nat} {ok : Nat → Prop} {w w' : World} {v : Value} {A : Option Addr} {xs : List α}
end
end Kd
end Go.Proofs.YtjbfcdeddnnnmaaDoorW.PrintWords
end
section
namespace Go.Proofs.YtjbfcdeddnnnmaaDoorW.PrintWords
open Go.RowKit
section
variable {P : Program} {d : Nat} {xs ys : Array Value} {f : Field} {fs : List Field} {a b : Value} {r s : Bool} {w : World}
/-- The last field that counts. -/
theorem eqf_last (hn : (f.name == "_") = false) (ha : (part f.type xs f.offset).run P w = .ok a w) (hb : (part f.type ys f.offset).run P w = .ok b w) (he : (Op.equalIn d f.type a b).run P w = .ok r w) : (Op.eqFields d xs ys [f]).run P w = .ok r w := by
  have hn' : f.name ≠ "_" := by simpa using hn
  simp only [Op.eqFields, if_pos hn', Sem.run_bind, ha, hb, he, Result.andThen_ok]
  cases r <;> simp
theorem eqf_cons (hn : (f.name == "_") = false) (ha : (part f.type xs f.offset).run P w = .ok a w) (hb : (part f.type ys f.offset).run P w = .ok b w) (he : (Op.equalIn d f.type a b).run P w = .ok r w) (hr : (Op.eqFields d xs ys fs).run P w = .ok s w) : (Op.eqFields d xs ys (f :: fs)).run P w = .ok (r && s) w := by
  have hn' : f.name ≠ "_" := by simpa using hn
  rw [Op.eqFields]
  simp only [if_pos hn', Sem.run_bind, ha, hb, he, Result.andThen_ok]
  cases r
  · simp
  · simpa using hr
theorem eqA_of {t : TypeId} {fs : Array Field} (hu : P.underlying t = some (.struct fs)) (hp : P.stoodInHeld t = false) (h : (Op.eqFields d xs ys fs.toList).run P w = .ok r w) : (Op.equalIn (d + 1) t (.agg xs) (.agg ys)).run P w = .ok r w := by
  have hf : P.fieldsOf t = fs := by simp [Program.fieldsOf, hu]
  rw [run_equalIn_struct (P := P) w d t xs ys (by rw [hf]; exact hu) hp, hf]
  exact h
end
end Go.Proofs.YtjbfcdeddnnnmaaDoorW.PrintWords
end
section
namespace Go.Proofs.YtjbfcdeddnnnmaaDoorW.PrintWords
/-- One cell an element. -/
theorem Reps.one {α : Type} {R : α → List Value → Prop} {ps : List α} {cs : List Value} {p : α} {v : Value} (hp : R p [v]) (h : Reps R 1 ps cs) : Reps R 1 (p :: ps) (v :: cs) := by
  refine ⟨by simp [h.1], fun j q hq => ?_⟩
  cases j with
  | zero =>
    simp only [List.getElem?_cons_zero, Option.some.injEq] at hq
    subst hq
    simpa using hp
  | succ j =>
    simp only [List.getElem?_cons_succ] at hq
    have h1 := h.2 j q hq
    simpa [Nat.mul_one] using h1
/-- More cells an element: told apart by the cells' list. -/
theorem Reps.front {α : Type} {R : α → List Value → Prop} {size : Nat} {ps : List α} {cs c all : List Value} {p : α} (hp : R p c) (hc : c.length = size) (h : Reps R size ps cs) (ha : c ++ cs = all) : Reps R size (p :: ps) all := by
  subst ha
  refine ⟨by rw [List.length_append, hc, h.1, List.length_cons, Nat.succ_mul, Nat.add_comm], fun j q hq => ?_⟩
  cases j with
  | zero =>
    simp only [List.getElem?_cons_zero, Option.some.injEq] at hq
    subst hq
    rw [Nat.zero_mul, List.drop_zero, List.take_append_of_le_length (by omega), List.take_of_length_le (by omega)]
    exact hp
  | succ j =>
    simp only [List.getElem?_cons_succ] at hq
    have h1 := h.2 j q hq
    rw [Nat.succ_mul, List.drop_append, List.drop_of_length_le (by rw [hc]; exact Nat.le_add_left _ _), List.nil_append, hc, Nat.add_sub_cancel]
    exact h1
theorem Reps.c2 {α : Type} {R : α → List Value → Prop} {ps : List α} {cs : List Value} {p : α} {va vb : Value} (hp : R p [va, vb]) (h : Reps R 2 ps cs) : Reps R 2 (p :: ps) (va :: vb :: cs) := Reps.front hp rfl h rfl
theorem Reps.c3 {α : Type} {R : α → List Value → Prop} {ps : List α} {cs : List Value} {p : α} {va vb vc : Value} (hp : R p [va, vb, vc]) (h : Reps R 3 ps cs) : Reps R 3 (p :: ps) (va :: vb :: vc :: cs) := Reps.front hp rfl h rfl
theorem Reps.c4 {α : Type} {R : α → List Value → Prop} {ps : List α} {cs : List Value} {p : α} {va vb vc vd : Value} (hp : R p [va, vb, vc, vd]) (h : Reps R 4 ps cs) : Reps R 4 (p :: ps) (va :: vb :: vc :: vd :: cs) := Reps.front hp rfl h rfl
theorem Reps.c5 {α : Type} {R : α → List Value → Prop} {ps : List α} {cs : List Value} {p : α} {va vb vc vd ve : Value} (hp : R p [va, vb, vc, vd, ve]) (h : Reps R 5 ps cs) : Reps R 5 (p :: ps) (va :: vb :: vc :: vd :: ve :: cs) := Reps.front hp rfl h rfl
theorem Reps.c6 {α : Type} {R : α → List Value → Prop} {ps : List α} {cs : List Value} {p : α} {va vb vc vd ve vf : Value} (hp : R p [va, vb, vc, vd, ve, vf]) (h : Reps R 6 ps cs) : Reps R 6 (p :: ps) (va :: vb :: vc :: vd :: ve :: vf :: cs) := Reps.front hp rfl h rfl
theorem Reps.c7 {α : Type} {R : α → List Value → Prop} {ps : List α} {cs : List Value} {p : α} {va vb vc vd ve vf vg : Value} (hp : R p [va, vb, vc, vd, ve, vf, vg]) (h : Reps R 7 ps cs) : Reps R 7 (p :: ps) (va :: vb :: vc :: vd :: ve :: vf :: vg :: cs) := Reps.front hp rfl h rfl
theorem Reps.c8 {α : Type} {R : α → List Value → Prop} {ps : List α} {cs : List Value} {p : α} {va vb vc vd ve vf vg vh : Value} (hp : R p [va, vb, vc, vd, ve, vf, vg, vh]) (h : Reps R 8 ps cs) : Reps R 8 (p :: ps) (va :: vb :: vc :: vd :: ve :: vf :: vg :: vh :: cs) := Reps.front hp rfl h rfl
theorem Reps.c9 {α : Type} {R : α → List Value → Prop} {ps : List α} {cs : List Value} {p : α} {va vb vc vd ve vf vg vh vi : Value} (hp : R p [va, vb, vc, vd, ve, vf, vg, vh, vi]) (h : Reps R 9 ps cs) : Reps R 9 (p :: ps) (va :: vb :: vc :: vd :: ve :: vf :: vg :: vh :: vi :: cs) := Reps.front hp rfl h rfl
theorem Reps.c10 {α : Type} {R : α → List Value → Prop} {ps : List α} {cs : List Value} {p : α} {va vb vc vd ve vf vg vh vi vj : Value} (hp : R p [va, vb, vc, vd, ve, vf, vg, vh, vi, vj]) (h : Reps R 10 ps cs) : Reps R 10 (p :: ps) (va :: vb :: vc :: vd :: ve :: vf :: vg :: vh :: vi :: vj :: cs) := Reps.front hp rfl h rfl
end Go.Proofs.YtjbfcdeddnnnmaaDoorW.PrintWords
end
section
namespace Go.Proofs.YtjbfcdeddnnnmaaDoorW.PrintLast
/-- Number i is listed too. -/
def up (b : Nat → Bool) (i : Nat) : Nat → Bool := fun j => if j = i then true else b j
section
variable {P : Program} {ops : Array Oper} {Q : Exit → Act → World → Prop} {md : Region.Mode} {T : Bool × List (List Nat × List Nat)} {B : List Nat} {O : List Nat} {b : Nat → Bool} {i j n : Nat}
end
end Go.Proofs.YtjbfcdeddnnnmaaDoorW.PrintLast
end
section
namespace Go.Proofs.YtjbfcdeddnnnmaaDoorW.PrintWords
open Go.RowKit
end Go.Proofs.YtjbfcdeddnnnmaaDoorW.PrintWords
namespace Go.Proofs.YtjbfcdeddnnnmaaDoorW.PrintLast
section
variable {ops : Array Oper} {a : Act} {o og : Oper} {g : Nat} {t : Tmp} {u : Bool}
end
end Go.Proofs.YtjbfcdeddnnnmaaDoorW.PrintLast
end
section
namespace Go.Proofs.YtjbfcdeddnnnmaaDoorW.PrintWords
open Go.RowKit
section
variable {P : Program} {ops : Array Oper} {rest : List Oper} {o : Oper} {a : Act} {Q : Exit → Act → World → Prop} {W : World}
end
end Go.Proofs.YtjbfcdeddnnnmaaDoorW.PrintWords
end
