/- What reads as data of a type reads as a value of a kind: by this the rows of laws open their arguments. Conditions: none. -/
import Derived.Test.YtbhlmgljflggeaaWWords
import Derived.ProofKit
import Derived.OpenShut
import Derived.DataReads
namespace Go.Proofs.Ytbhlmgljflggeaa.Opn
open Go.RowKit Go.ChangeShapes Go.WideShapes Go.Proofs.YtbhlmgljflggeaaW.PrintWords

/-- Whatever is read at type t holds a value of kind d, and p is true of it. -/
def Opn {α : Type} (P : Program) (t : TypeId) (d : Kd α) (p : α → Prop) : Prop :=
  ∀ (H : Type) (enc : TypeId × Value → H) (w : World) (fuel : Nat) (cs : List Value) (x : DataW H × List MemPlace),
    DataW.trod enc P w 0 (fun _ => true) true fuel t cs = some x → ∃ a, d.K w a cs ∧ p a

theorem opn_int {P : Program} {t : TypeId} {k : IntKind} (ht : P.underlying t = some (.int k)) : Opn P t (Kd.int k) (fun n => (Lit.int k n).wf = true) := by
  intro H enc w fuel cs x h
  obtain ⟨n, rfl, _, hw⟩ := DataW.trod_int ht h
  exact ⟨n, rfl, hw⟩

theorem opn_bool {P : Program} {t : TypeId} (ht : P.underlying t = some .bool) : Opn P t Kd.bool (fun _ => True) := by
  intro H enc w fuel cs x h
  obtain ⟨b, rfl, _⟩ := DataW.trod_bool ht h
  exact ⟨b, rfl, trivial⟩

theorem opn_string {P : Program} {t : TypeId} (ht : P.underlying t = some .string) : Opn P t Kd.string (fun s => s.size ≤ maxLen) := by
  intro H enc w fuel cs x h
  obtain ⟨s, rfl, _, hs⟩ := DataW.trod_string ht h
  exact ⟨s, rfl, hs⟩

theorem list_of {α : Type} {R : Nat → α → Prop} : ∀ n, (∀ i, i < n → ∃ q, R i q) → ∃ l : List α, l.length = n ∧ ∀ (j : Nat) q, l[j]? = some q → R j q
  | 0, _ => ⟨[], rfl, fun j q h => by simp at h⟩
  | n + 1, h => by
    obtain ⟨l, hl, hr⟩ := list_of n (fun i hi => h i (Nat.lt_succ_of_lt hi))
    obtain ⟨q, hq⟩ := h n (Nat.lt_succ_self n)
    refine ⟨l ++ [q], by simp [hl], fun j r hj => ?_⟩
    rcases Nat.lt_or_ge j l.length with hlt | hge
    · rw [List.getElem?_append_left hlt] at hj
      exact hr j r hj
    · have h1 := (List.getElem?_eq_some_iff.1 hj).1
      simp at h1
      have e : j = n := by omega
      subst e
      rw [List.getElem?_append_right hge] at hj
      rw [hl] at hj
      simp at hj
      subst hj
      exact hq

theorem addr_add_add (a : Addr) (i j : Nat) : (a.add i).add j = a.add (i + j) := by
  unfold Addr.add
  by_cases hi : i = 0 <;> by_cases hj : j = 0 <;> simp [hi, hj, Nat.add_assoc]

theorem opn_slice {α : Type} {P : Program} {t e : TypeId} {d : Kd α} {p : α → Prop} (ht : P.underlying t = some (.slice e)) (hc : P.cellsOf e = d.sz) (he : Opn P e d p) :
    Opn P t (Kd.slice e d) (fun l => l.length ≤ maxLen ∧ ∀ x ∈ l, p x) := by
  intro H enc w fuel cs x h
  rcases DataW.trod_slice ht h with ⟨rfl, _⟩ | ⟨a, len, cap, elems, rest, n, _, rfl, _, _, hl, hm, hlen, hel, _, _⟩
  · exact ⟨[], ⟨none, 0, rfl, Nat.le_refl _, ⟨rfl, Nat.zero_le _, fun h => absurd h (by simp)⟩⟩, by simp, by simp⟩
  · have each : ∀ i, i < len → ∃ q : α, p q ∧ ∃ c, c.length = d.sz ∧ d.K w q c ∧ ∀ (j : Nat) u, c[j]? = some u → w.cell? (a.add (i * d.sz + j)) = some u := by
      intro i hi
      have h1 := hel i hi
      rw [List.getElem?_eq_getElem (by omega)] at h1
      obtain ⟨c, hc1, hc2⟩ := Option.bind_eq_some_iff.1 h1
      obtain ⟨q, hk, hp⟩ := he _ _ _ _ _ _ hc2
      rw [hc] at hc1
      obtain ⟨_, hcl, hcc⟩ := World.cells?_some hc1
      refine ⟨q, hp, c, hcl, hk, fun j u hu => ?_⟩
      have hj : j < d.sz := by
        have := (List.getElem?_eq_some_iff.1 hu).1
        omega
      rw [← addr_add_add, hcc j hj, hu]
    obtain ⟨l, hll, hr⟩ := list_of len each
    have hml : len ≤ maxLen := Nat.le_trans hl hm
    refine ⟨l, ⟨some a, cap, by rw [hll], by omega, ?_⟩, by omega, fun q hq => ?_⟩
    · refine ⟨rfl, ?_, fun _ => ⟨a, rfl, fun j q hj => ?_⟩⟩
      · rw [hll]
        exact hml
      · obtain ⟨_, c, h1, h2, h3⟩ := hr j q hj
        exact ⟨c, h1, h2, h3⟩
    · obtain ⟨j, hj⟩ := List.getElem?_of_mem hq
      exact (hr j q hj).1

theorem pair_of {α β : Type} {a : Kd α} {b : Kd β} {w : World} {x : α} {y : β} {cs : List Value} (s : Nat) (h0 : a.K w x (cs.take s)) (h1 : b.K w y (cs.drop s)) : (Kd.pair a b).K w (x, y) cs :=
  ⟨_, _, (List.take_append_drop s cs).symm, h0, h1⟩

theorem last_of {α : Type} {a : Kd α} {w : World} {x : α} {cs : List Value} (s : Nat) (hs : cs.length ≤ s) (h : a.K w x (cs.take s)) : a.K w x cs := by
  rwa [List.take_of_length_le hs] at h

theorem toArray_of {cs : Array Value} {l : List Value} (h : cs.toList = l) : cs = l.toArray := by
  subst h
  rfl

/-- A slice that came in, opened. -/
theorem open_row {α : Type} {P : Program} {t e : TypeId} {d : Kd α} {p : List α → Prop} (ho : Opn P t (Kd.slice e d) p) {H : Type} {enc : TypeId × Value → H} {w : World} {a : Option Addr} {len cap : Nat} {y : DataW H} {ps : List MemPlace}
    (h : DataW.Trod enc P w 0 (fun _ => true) true t (.slice a len cap) y ps) : ∃ l : List α, l.length = len ∧ len ≤ cap ∧ d.C w a len l ∧ p l := by
  obtain ⟨fuel, hf⟩ := h
  obtain ⟨l, ⟨A, c, hcs, hlc, hC⟩, hp⟩ := ho _ _ _ _ _ _ hf
  simp only [Value.cells] at hcs
  injection hcs with hcs _
  injection hcs with h1 h2 h3
  subst h1 h2 h3
  exact ⟨l, rfl, hlc, hC, hp⟩

/-- A record that came in, opened. -/
theorem open_rec {α : Type} {P : Program} {t : TypeId} {d : Kd α} {p : α → Prop} (ho : Opn P t d p) {H : Type} {enc : TypeId × Value → H} {w : World} {cs : Array Value} {y : DataW H} {ps : List MemPlace}
    (h : DataW.Trod enc P w 0 (fun _ => true) true t (.agg cs) y ps) : ∃ x, d.K w x cs.toList ∧ p x := by
  obtain ⟨fuel, hf⟩ := h
  exact ho _ _ _ _ _ _ hf

/-- Behind orders that were drawn quietly: a cell's facts at the world's new name. -/
theorem cell_at_ {W w' : World} {m : Nat} (hq : W.drewN m = w') {a : Addr} {v : Option Value} (h : W.cell? a = v) : w'.cell? a = v := by
  subst hq
  exact h
theorem frozen_at_ {W w' : World} {m : Nat} (hq : W.drewN m = w') {a : Addr} {b : Bool} (h : W.frozen? a = b) : w'.frozen? a = b := by
  subst hq
  exact h

/-- An array in a boxed record, cut whole. -/
theorem cut_arr {P : Program} (t e n : Nat) {i : TypeInfo} (ht : P.underlying t = some (.array n e)) (hi : P.info? e = some i) (g o : Nat) :
    ∀ W : World, (Instr.sliceAt t (.pointer (some ⟨g, o, none⟩)) none none none).run P W = .ok (.slice (some ⟨g, o, none⟩) n n) W := by
  intro W
  have hel : P.elem t = e := by simp [Program.elem, ht]
  have hal : P.arrayLen t = n := by simp [Program.arrayLen, ht]
  have hu : P.underlying t = some (.array (P.arrayLen t) (P.elem t)) := by rw [hel, hal]; exact ht
  rw [run_sliceAt_array_all W t ⟨g, o, none⟩ hu, hel, hal]
  simp [sizeOf, typeInfo, hi, slicedAt, Result.andThen, Addr.add]
theorem cut_len {P : Program} {t : TypeId} {p : Value} {A : Option Addr} {n : Nat} {y : List Int} (hy : y.length = n)
    (h : ∀ W : World, (Instr.sliceAt t p none none none).run P W = .ok (.slice A n n) W) :
    ∀ W : World, (Instr.sliceAt t p none none none).run P W = .ok (.slice A y.length n) W := by
  rw [hy]
  exact h
theorem C_nil_ (k : IntKind) (w : World) (g o : Nat) : Kd.C (Kd.int k) w (some ⟨g, o, none⟩) ([] : List Int).length [] :=
  ⟨rfl, by simp, fun h => absurd h (Nat.lt_irrefl 0)⟩
theorem C_cons_ {k : IntKind} {w : World} {g o : Nat} {x : Int} {xs : List Int} (h : w.cell? ⟨g, o, none⟩ = some (.int k x)) (hs : Kd.C (Kd.int k) w (some ⟨g, o + 1, none⟩) xs.length xs) (hl : xs.length < 1000 := by (simp only [List.length_cons, List.length_nil]; omega)) :
    Kd.C (Kd.int k) w (some ⟨g, o, none⟩) (x :: xs).length (x :: xs) := by
  refine ⟨rfl, by simp only [List.length_cons]; omega, fun _ => ⟨⟨g, o, none⟩, rfl, fun j p hj => ?_⟩⟩
  cases j with
  | zero =>
    obtain rfl : x = p := by simpa using hj
    refine ⟨[.int k x], rfl, rfl, fun i u hu => ?_⟩
    cases i with
    | zero =>
      obtain rfl : Value.int k x = u := by simpa using hu
      simpa [Addr.add] using h
    | succ i => simp at hu
  | succ j =>
    have hlt : j < xs.length := by
      have := (List.getElem?_eq_some_iff.1 hj).1
      simpa using this
    obtain ⟨ad, had, hc⟩ := hs.2.2 (by omega)
    obtain rfl := Option.some.inj had
    obtain ⟨c, hc1, hc2, hc3⟩ := hc j p (by simpa using hj)
    refine ⟨c, hc1, hc2, fun i u hu => ?_⟩
    have h3 := hc3 i u hu
    have e1 : (Kd.int k).sz = 1 := rfl
    rw [e1] at h3 ⊢
    have e2 : (⟨g, o + 1, none⟩ : Addr).add (j * 1 + i) = (⟨g, o, none⟩ : Addr).add ((j + 1) * 1 + i) := by
      rw [show (⟨g, o + 1, none⟩ : Addr) = (⟨g, o, none⟩ : Addr).add 1 from by simp [Addr.add], addr_add_add]
      congr 1
      omega
    rw [← e2]
    exact h3

end Go.Proofs.Ytbhlmgljflggeaa.Opn
