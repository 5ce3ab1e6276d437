/- The plain law of EmitControls: what the walk computes is true for every text. -/
import Derived.Test.YtddkmhkglmcihaaPAllx15
import Derived.Test.YtddkmhkglmcihaaQEmit9
set_option linter.unusedVariables false
set_option linter.unusedSimpArgs false
namespace Go.Proofs.Ytddkmhkglmcihaa.Pure
open Go.RowKit Go.Proofs.Ytddkmhkglmcihaa.PAll Go.Proofs.YtddkmhkglmcihaaW.PrintWords Go.Proofs.YtddkmhkglmcihaaW.PrintLast Go.Proofs.YtddkmhkglmcihaaW.PrintMore Go.Proofs.Ytddkmhkglmcihaa.Q
theorem EmitControls : dactyllaw10_EmitControls.Pure := by
  intro a0 _
  refine ⟨70000, ?_⟩
  unfold dactyllaw10_EmitControls.f emit_Clean.f
  have yes : dactyllaw10_EmitControls.j0 70000 a0 true = some true := rfl
  by_cases c : (a0.size : Int) > 500
  · rw [if_pos c]
    exact yes
  · rw [if_neg c]
    obtain ⟨l, e, h1, h2⟩ := parse_all a0 (by omega) 70000 (by omega)
    rw [h1]
    simp only [Option.bind_some]
    rcases h2 with ⟨h2, h3⟩ | ⟨h2, h3, h4, h5, h6⟩
    · subst h2
      exact yes
    · subst h2
      have hm : ∀ x ∈ l, mayB x = true := fun x hx => (h4 x hx).1
      show dactyllaw10_EmitControls.j0 (69999 + 1) a0 false = some true
      simp only [dactyllaw10_EmitControls.j0]
      rw [if_neg (by decide)]
      exact ctl_l0 a0 (by omega) (by rw [← h5]; exact of_text l hm) a0.size 69999 0 (by omega) (by omega) (by omega) (by rw [List.drop_zero, ← h5]; exact good_text l hm)
end Go.Proofs.Ytddkmhkglmcihaa.Pure
