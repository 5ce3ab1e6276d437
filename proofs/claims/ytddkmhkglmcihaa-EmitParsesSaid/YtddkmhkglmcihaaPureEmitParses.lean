/- The plain law of EmitParses: what the walk computes is true for every text. -/
import Derived.Test.YtddkmhkglmcihaaPAllx15
import Derived.Test.YtddkmhkglmcihaaQEmit6
set_option linter.unusedVariables false
set_option linter.unusedSimpArgs false
namespace Go.Proofs.Ytddkmhkglmcihaa.Pure
open Go.RowKit Go.Proofs.Ytddkmhkglmcihaa.PAll Go.Proofs.YtddkmhkglmcihaaW.PrintWords Go.Proofs.YtddkmhkglmcihaaW.PrintLast Go.Proofs.YtddkmhkglmcihaaW.PrintMore Go.Proofs.Ytddkmhkglmcihaa.Q
theorem EmitParses : dactyllaw10_EmitParses.Pure := by
  intro a0 _
  refine ⟨70000, ?_⟩
  unfold dactyllaw10_EmitParses.f emit_Clean.f
  by_cases c : (a0.size : Int) > 500
  · rw [if_pos c, awake_eq]
    rfl
  · rw [if_neg c]
    obtain ⟨l, e, h1, h2⟩ := parse_all a0 (by omega) 70000 (by omega)
    rw [h1]
    simp only [Option.bind_some, bne_self_eq_false, Bool.false_eq_true, if_false]
    rcases h2 with ⟨h2, h3⟩ | ⟨h2, h3a, h4a, h5, h6⟩
    · subst h2
      subst h3
      rw [if_neg (by omega), awake_eq]
      rfl
    · subst h2
      have h3 : Few l := few_of (by omega) h3a h4a
      have hall := all_of (fun x hx => (h4a x hx).1)
      obtain ⟨b, h7, h8⟩ := text_ref l h3 70000 (by omega) hall
      have hlen := h3.1
      rw [if_pos rfl, awake_eq, all_ref l h3 70000 (by omega), h7, hall, ref_joined l h3 70000 (by omega), joined_norm l h6]
      simp only [Option.bind_some, if_true]
      rw [if_pos (by rw [tl, tl, h8, h5]), same_self l (by omega) 70000 (by omega)]
      rfl
end Go.Proofs.Ytddkmhkglmcihaa.Pure
