/- Plain facts: pieces compared. -/
import Derived.Test.YtddkmhkglmcihaaPAllx9
import Derived.Test.YtddkmhkglmcihaaQEmit5
set_option linter.unusedVariables false
set_option linter.unusedSimpArgs false
namespace Go.Proofs.Ytddkmhkglmcihaa.Q
open Go.RowKit Go.Proofs.Ytddkmhkglmcihaa.PAll Go.Proofs.YtddkmhkglmcihaaW.PrintWords Go.Proofs.YtddkmhkglmcihaaW.PrintLast Go.Proofs.YtddkmhkglmcihaaW.PrintMore
theorem same_self (l : List O) (hl : l.length ≤ 1000000) (k : Nat) (hk : l.length < k) : dactylref10_Same.f k l l = some true := by
  have key : ∀ (n k i : Nat), l.length - i ≤ n → n < k → i ≤ l.length → dactylref10_Same.l0 k l l (i : Int) = some true := by
    intro n
    induction n with
    | zero =>
      intro k i hi hk hle
      obtain ⟨k, rfl⟩ : ∃ m, k = m + 1 := ⟨k - 1, by omega⟩
      simp only [dactylref10_Same.l0]
      rw [if_neg (by omega)]
    | succ n ih =>
      intro k i hi hk hle
      obtain ⟨k, rfl⟩ : ∃ m, k = m + 1 := ⟨k - 1, by omega⟩
      simp only [dactylref10_Same.l0]
      by_cases c : i < l.length
      · have w1 : wrap64 ((i : Int) + 1) = ((i + 1 : Nat) : Int) := by unfold wrap64; omega
        rw [if_pos (by omega), if_pos (by omega), if_pos (by omega), w1]
        simp only [BEq.rfl, Bool.not_true, Bool.or_self]
        rw [if_neg (by simp)]
        exact ih k (i + 1) (by omega) (by omega) (by omega)
      · rw [if_neg (by omega)]
  unfold dactylref10_Same.f
  rw [if_pos rfl]
  exact key l.length k 0 (by omega) hk (by omega)
theorem awake_eq : dactyllaw10_awake.f = some true := rfl
theorem all_of {l : List O} (h : ∀ x ∈ l, mayB x = true) : l.all mayB = true := List.all_eq_true.mpr h
end Go.Proofs.Ytddkmhkglmcihaa.Q
