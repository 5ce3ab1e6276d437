/- How the arguments of this seat's laws are opened: what a reading says of the cells. -/
-- Written for this claim by the session's own program (wip/tool/rowgen.py).
import Derived.Test.YtpkmoonfnbcphaaPAllx0
import Derived.ChangeArms
import Derived.DataReads
import Derived.DataElems
import Derived.DataOpen
import Derived.DataShut
namespace Go.Proofs.Ytpkmoonfnbcphaa.Open
open Go.RowKit Go.Proofs.YtpkmoonfnbcphaaW.PrintWords Go.Proofs.YtpkmoonfnbcphaaW.PrintLast Go.Proofs.YtpkmoonfnbcphaaW.PrintMore Go.Proofs.Ytpkmoonfnbcphaa.PAll
set_option linter.unusedVariables false
set_option linter.unusedSimpArgs false
/-- A reading at the type t tells a value of the kind, of which something is known. -/
def Opens {α : Type} (P : Program) (d : Kd α) (G : α → Prop) (t : TypeId) : Prop :=
  ∀ {H : Type} (enc : TypeId × Value → H) (W : World) (n : Nat) (cs : List Value) (x : DataW H × List MemPlace), DataW.trod enc P W 0 (fun _ => true) true n t cs = some x → ∃ a : α, d.K W a cs ∧ G a
theorem Opens.imp {α : Type} {P : Program} {d : Kd α} {G G' : α → Prop} {t : TypeId} (h : Opens P d G t) (hG : ∀ a, G a → G' a) : Opens P d G' t := fun enc W n cs x hx => by
  obtain ⟨a, h1, h2⟩ := h enc W n cs x hx
  exact ⟨a, h1, hG a h2⟩
theorem opens_int {P : Program} {t : TypeId} {k : IntKind} (ht : P.underlying t = some (.int k)) : Opens P (Kd.int k) (fun x => k.min ≤ x ∧ x ≤ k.max) t := fun enc W n cs x h => by
  obtain ⟨z, rfl, _, hw⟩ := DataW.trod_int ht h
  exact ⟨z, rfl, (Lit.wf_int_iff k z).1 hw⟩
theorem opens_bool {P : Program} {t : TypeId} (ht : P.underlying t = some .bool) : Opens P Kd.bool (fun _ => True) t := fun enc W n cs x h => by
  obtain ⟨z, rfl, _⟩ := DataW.trod_bool ht h
  exact ⟨z, rfl, trivial⟩
theorem opens_string {P : Program} {t : TypeId} (ht : P.underlying t = some .string) : Opens P Kd.string (fun s => s.size ≤ 9223372036854775807) t := fun enc W n cs x h => by
  obtain ⟨z, rfl, _, hw⟩ := DataW.trod_string ht h
  exact ⟨z, rfl, hw⟩
theorem choose_list {α : Type} (R : Nat → α → Prop) : ∀ n, (∀ i, i < n → ∃ a, R i a) → ∃ l : List α, l.length = n ∧ ∀ i (h : i < l.length), R i l[i]
  | 0, _ => ⟨[], rfl, fun i h => absurd h (Nat.not_lt_zero i)⟩
  | n + 1, h => by
    obtain ⟨l, h1, h2⟩ := choose_list R n (fun i hi => h i (by omega))
    obtain ⟨a, ha⟩ := h n (by omega)
    refine ⟨l ++ [a], by simp [h1], fun i hi => ?_⟩
    by_cases c : i < l.length
    · rw [List.getElem_append_left c]; exact h2 i c
    · have : i = n := by simp at hi; omega
      subst this
      rw [List.getElem_append_right (by omega)]
      simpa [h1] using ha
theorem opens_slice {α : Type} {P : Program} {t e : TypeId} {d : Kd α} {G : α → Prop} (ht : P.underlying t = some (.slice e)) (hc : P.cellsOf e = d.sz) (he : Opens P d G e) : Opens P (Kd.slice e d) (fun l => l.length ≤ 9223372036854775807 ∧ ∀ y ∈ l, G y) t := fun enc W n cs x h => by
  rcases DataW.trod_slice ht h with ⟨rfl, _⟩ | ⟨a, len, cap, elems, rest, n', _, rfl, _, _, hl, hm, hlen, hel, _, _⟩
  · exact ⟨[], ⟨none, 0, rfl, Nat.le_refl _, rfl, Nat.zero_le _, fun h => absurd h (Nat.lt_irrefl 0)⟩, Nat.zero_le _, fun y hy => by cases hy⟩
  · have key : ∀ i, i < len → ∃ p : α, (∃ c, c.length = d.sz ∧ d.K W p c ∧ ∀ j u, c[j]? = some u → W.cell? (a.add (i * d.sz + j)) = some u) ∧ G p := by
      intro i hi
      have h1 := hel i hi
      rw [List.getElem?_eq_getElem (by omega)] at h1
      obtain ⟨c, hc1, hc2⟩ := Option.bind_eq_some_iff.mp h1
      obtain ⟨p, hK, hG⟩ := he enc W n' c _ hc2
      obtain ⟨_, hs, hcell⟩ := World.cells?_some hc1
      rw [hc] at hs hcell
      refine ⟨p, ⟨c, hs, hK, fun j u hu => ?_⟩, hG⟩
      have hj : j < c.length := (List.getElem?_eq_some_iff.mp hu).1
      have := hcell j (by omega)
      rw [Addr.add_add] at this
      rw [this, hu]
    obtain ⟨l, hl1, hl2⟩ := choose_list _ len key
    have hmx : len ≤ 9223372036854775807 := by unfold maxLen at hm; omega
    refine ⟨l, ⟨some a, cap, by rw [hl1], by omega, rfl, by omega, fun _ => ⟨a, rfl, fun j p hj => ?_⟩⟩, by omega, fun y hy => ?_⟩
    · obtain ⟨h1, h2⟩ := List.getElem?_eq_some_iff.mp hj
      subst h2
      exact (hl2 j h1).1
    · obtain ⟨j, h1, rfl⟩ := List.getElem_of_mem hy
      exact (hl2 j h1).2
theorem seg0 (cs : List Value) (n : Nat) : cs = (cs.drop 0).take n ++ cs.drop n := (List.take_append_drop n cs).symm
theorem seg (cs : List Value) (o n : Nat) : cs.drop o = (cs.drop o).take n ++ cs.drop (o + n) := by
  rw [← List.drop_drop]
  exact (List.take_append_drop n (cs.drop o)).symm
theorem segL (cs : List Value) (o n : Nat) (h : cs.length = o + n) {p : List Value → Prop} (hp : p ((cs.drop o).take n)) : p (cs.drop o) := by
  rw [List.take_of_length_le (by rw [List.length_drop]; omega)] at hp
  exact hp
/-- What is known of a value of the type 9. -/
def G9 (x : ByteArray) : Prop := x.size ≤ 9223372036854775807
theorem op9 : Opens Try.prog Kd.string G9 9 := opens_string Try.underlying9
/-- What is known of a value of the type 30. -/
def G30 (x : List (ByteArray)) : Prop := (x.length ≤ 9223372036854775807 ∧ ∀ y ∈ x, G9 y)
theorem op30 : Opens Try.prog (Kd.slice 9 Kd.string) G30 30 := opens_slice Try.underlying30 (by kernel_rfl) op9
end Go.Proofs.Ytpkmoonfnbcphaa.Open
