/- How the arguments of this seat's laws are opened: what a reading says of the cells. -/
-- Written for this claim by the session's own program (wip/tool/rowgen.py).
import Derived.Test.YtddkmhkglmcihaaPAllx0
import Derived.ChangeArms
import Derived.DataReads
import Derived.DataElems
import Derived.DataOpen
import Derived.DataShut
namespace Go.Proofs.Ytddkmhkglmcihaa.Open
open Go.RowKit Go.Proofs.YtddkmhkglmcihaaW.PrintWords Go.Proofs.YtddkmhkglmcihaaW.PrintLast Go.Proofs.YtddkmhkglmcihaaW.PrintMore Go.Proofs.Ytddkmhkglmcihaa.PAll
set_option linter.unusedVariables false
set_option linter.unusedSimpArgs false
/-- A reading at the type t tells a value of the kind, of which something is known. -/
def Opens {α : Type} (P : Program) (d : Kd α) (G : α → Prop) (t : TypeId) : Prop :=
  ∀ {H : Type} (enc : TypeId × Value → H) (W : World) (n : Nat) (cs : List Value) (x : DataW H × List MemPlace), DataW.trod enc P W 0 (fun _ => true) true n t cs = some x → ∃ a : α, d.K W a cs ∧ G a
theorem Opens.imp {α : Type} {P : Program} {d : Kd α} {G G' : α → Prop} {t : TypeId} (h : Opens P d G t) (hG : ∀ a, G a → G' a) : Opens P d G' t := fun enc W n cs x hx => by
  obtain ⟨a, h1, h2⟩ := h enc W n cs x hx
  exact ⟨a, h1, hG a h2⟩
theorem opens_int {P : Program} {t : TypeId} {k : IntKind} (ht : P.underlying t = some (.int k)) : Opens P (Kd.int k) (fun x => k.min ≤ x ∧ x ≤ k.max) t := fun enc W n cs x h => by
  obtain ⟨z, rfl, _, hw⟩ := DataW.trod_int ht h
  exact ⟨z, rfl, (Lit.wf_int_iff k z).1 hw⟩
theorem opens_bool {P : Program} {t : TypeId} (ht : P.underlying t = some .bool) : Opens P Kd.bool (fun _ => True) t := fun enc W n cs x h => by
  obtain ⟨z, rfl, _⟩ := DataW.trod_bool ht h
  exact ⟨z, rfl, trivial⟩
theorem opens_string {P : Program} {t : TypeId} (ht : P.underlying t = some .string) : Opens P Kd.string (fun s => s.size ≤ 9223372036854775807) t := fun enc W n cs x h => by
  obtain ⟨z, rfl, _, hw⟩ := DataW.trod_string ht h
  exact ⟨z, rfl, hw⟩
theorem choose_list {α : Type} (R : Nat → α → Prop) : ∀ n, (∀ i, i < n → ∃ a, R i a) → ∃ l : List α, l.length = n ∧ ∀ i (h : i < l.length), R i l[i]
  | 0, _ => ⟨[], rfl, fun i h => absurd h (Nat.not_lt_zero i)⟩
  | n + 1, h => by
    obtain ⟨l, h1, h2⟩ := choose_list R n (fun i hi => h i (by omega))
    obtain ⟨a, ha⟩ := h n (by omega)
    refine ⟨l ++ [a], by simp [h1], fun i hi => ?_⟩
    by_cases c : i < l.length
    · rw [List.getElem_append_left c]; exact h2 i c
    · have : i = n := by simp at hi; omega
      subst this
      rw [List.getElem_append_right (by omega)]
      simpa [h1] using ha
theorem opens_slice {α : Type} {P : Program} {t e : TypeId} {d : Kd α} {G : α → Prop} (ht : P.underlying t = some (.slice e)) (hc : P.cellsOf e = d.sz) (he : Opens P d G e) : Opens P (Kd.slice e d) (fun l => l.length ≤ 9223372036854775807 ∧ ∀ y ∈ l, G y) t := fun enc W n cs x h => by
  rcases DataW.trod_slice ht h with ⟨rfl, _⟩ | ⟨a, len, cap, elems, rest, n', _, rfl, _, _, hl, hm, hlen, hel, _, _⟩
  · exact ⟨[], ⟨none, 0, rfl, Nat.le_refl _, rfl, Nat.zero_le _, fun h => absurd h (Nat.lt_irrefl 0)⟩, Nat.zero_le _, fun y hy => by cases hy⟩
  · have key : ∀ i, i < len → ∃ p : α, (∃ c, c.length = d.sz ∧ d.K W p c ∧ ∀ j u, c[j]? = some u → W.cell? (a.add (i * d.sz + j)) = some u) ∧ G p := by
      intro i hi
      have h1 := hel i hi
      rw [List.getElem?_eq_getElem (by omega)] at h1
      obtain ⟨c, hc1, hc2⟩ := Option.bind_eq_some_iff.mp h1
      obtain ⟨p, hK, hG⟩ := he enc W n' c _ hc2
      obtain ⟨_, hs, hcell⟩ := World.cells?_some hc1
      rw [hc] at hs hcell
      refine ⟨p, ⟨c, hs, hK, fun j u hu => ?_⟩, hG⟩
      have hj : j < c.length := (List.getElem?_eq_some_iff.mp hu).1
      have := hcell j (by omega)
      rw [Addr.add_add] at this
      rw [this, hu]
    obtain ⟨l, hl1, hl2⟩ := choose_list _ len key
    have hmx : len ≤ 9223372036854775807 := by unfold maxLen at hm; omega
    refine ⟨l, ⟨some a, cap, by rw [hl1], by omega, rfl, by omega, fun _ => ⟨a, rfl, fun j p hj => ?_⟩⟩, by omega, fun y hy => ?_⟩
    · obtain ⟨h1, h2⟩ := List.getElem?_eq_some_iff.mp hj
      subst h2
      exact (hl2 j h1).1
    · obtain ⟨j, h1, rfl⟩ := List.getElem_of_mem hy
      exact (hl2 j h1).2
theorem seg0 (cs : List Value) (n : Nat) : cs = (cs.drop 0).take n ++ cs.drop n := (List.take_append_drop n cs).symm
theorem seg (cs : List Value) (o n : Nat) : cs.drop o = (cs.drop o).take n ++ cs.drop (o + n) := by
  rw [← List.drop_drop]
  exact (List.take_append_drop n (cs.drop o)).symm
theorem segL (cs : List Value) (o n : Nat) (h : cs.length = o + n) {p : List Value → Prop} (hp : p ((cs.drop o).take n)) : p (cs.drop o) := by
  rw [List.take_of_length_le (by rw [List.length_drop]; omega)] at hp
  exact hp
/-- What is known of a value of the type 3. -/
def G3 (x : Int) : Prop := (-9223372036854775808 ≤ x ∧ x ≤ 9223372036854775807)
theorem op3 : Opens Try.prog (Kd.int .i64) G3 3 := Opens.imp (opens_int Try.underlying3) fun x h => (by simpa only [G3, IntKind.min_i64, IntKind.max_i64] using h)
/-- What is known of a value of the type 9. -/
def G9 (x : ByteArray) : Prop := x.size ≤ 9223372036854775807
theorem op9 : Opens Try.prog Kd.string G9 9 := opens_string Try.underlying9
/-- What is known of a value of the type 31. -/
def G31 (x : S31) : Prop := (G3 x.f0 ∧ G3 x.f1 ∧ G3 x.f2 ∧ G9 x.f3)
theorem op31 : Opens Try.prog k31 G31 31 := by
  intro H enc W n cs x h
  obtain ⟨xs, m, rfl, rfl, hl, hn, hel⟩ := DataW.trod_struct Try.underlying31 h
  have hl : cs.length = 4 := hl.trans (by kernel_rfl)
  have hn : xs.length = 4 := hn
  obtain ⟨a0, k0_, g0⟩ := op3 enc W m _ _ ((hel 0 _ rfl).trans (List.getElem?_eq_getElem (by omega)))
  replace k0_ : Kd.K (Kd.int .i64) W a0 ((cs.drop 0).take 1) := by rw [show (1 : Nat) = Try.prog.cellsOf 3 from by kernel_rfl]; exact k0_
  obtain ⟨a1, k1_, g1⟩ := op3 enc W m _ _ ((hel 1 _ rfl).trans (List.getElem?_eq_getElem (by omega)))
  replace k1_ : Kd.K (Kd.int .i64) W a1 ((cs.drop 1).take 1) := by rw [show (1 : Nat) = Try.prog.cellsOf 3 from by kernel_rfl]; exact k1_
  obtain ⟨a2, k2_, g2⟩ := op3 enc W m _ _ ((hel 2 _ rfl).trans (List.getElem?_eq_getElem (by omega)))
  replace k2_ : Kd.K (Kd.int .i64) W a2 ((cs.drop 2).take 1) := by rw [show (1 : Nat) = Try.prog.cellsOf 3 from by kernel_rfl]; exact k2_
  obtain ⟨a3, k3_, g3⟩ := op9 enc W m _ _ ((hel 3 _ rfl).trans (List.getElem?_eq_getElem (by omega)))
  replace k3_ : Kd.K Kd.string W a3 ((cs.drop 3).take 1) := by rw [show (1 : Nat) = Try.prog.cellsOf 9 from by kernel_rfl]; exact k3_
  exact ⟨⟨a0, a1, a2, a3⟩, ⟨_, cs.drop 1, seg0 cs 1, k0_, _, cs.drop 2, seg cs 1 1, k1_, _, cs.drop 3, seg cs 2 1, k2_, segL cs 3 1 hl k3_⟩, ⟨g0, g1, g2, g3⟩⟩
/-- What is known of a value of the type 22. -/
def G22 (x : List (S31)) : Prop := (x.length ≤ 9223372036854775807 ∧ ∀ y ∈ x, G31 y)
theorem op22 : Opens Try.prog (Kd.slice 31 k31) G22 22 := opens_slice Try.underlying22 (by kernel_rfl) op31
end Go.Proofs.Ytddkmhkglmcihaa.Open
