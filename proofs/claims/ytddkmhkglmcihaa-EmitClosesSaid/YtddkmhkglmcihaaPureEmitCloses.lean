/- The plain law of EmitCloses: what the walk computes is true for every two texts. -/
import Derived.Test.YtddkmhkglmcihaaPAllx16
import Derived.Test.YtddkmhkglmcihaaQEmit9
set_option linter.unusedVariables false
set_option linter.unusedSimpArgs false
namespace Go.Proofs.Ytddkmhkglmcihaa.Pure
open Go.RowKit Go.Proofs.Ytddkmhkglmcihaa.PAll Go.Proofs.YtddkmhkglmcihaaW.PrintWords Go.Proofs.YtddkmhkglmcihaaW.PrintLast Go.Proofs.YtddkmhkglmcihaaW.PrintMore Go.Proofs.Ytddkmhkglmcihaa.Q
theorem EmitCloses : dactyllaw10_EmitCloses.Pure := by
  intro a0 a1 _ _
  refine ⟨70000, ?_⟩
  unfold dactyllaw10_EmitCloses.f emit_Clean.f
  have yes : dactyllaw10_EmitCloses.j0 70000 a0 a1 true = some true := rfl
  by_cases c : (a0.size : Int) > 300
  · rw [if_pos c]
    exact yes
  rw [if_neg c]
  by_cases d : (a1.size : Int) > 300
  · rw [if_pos d]
    exact yes
  rw [if_neg d]
  have at0 := parse_all a0 (by omega)
  have at1 := parse_all a1 (by omega)
  obtain ⟨l, e, h1, h2⟩ := at0 70000 (by omega)
  obtain ⟨m, f, q1, q2⟩ := at1 70000 (by omega)
  rw [h1]
  simp only [Option.bind_some]
  rcases h2 with ⟨h2, h3⟩ | ⟨h2, h3, h4, h5, h6⟩
  · subst h2
    exact yes
  subst h2
  rw [if_pos (by decide), q1]
  simp only [Option.bind_some]
  rcases q2 with ⟨q2, q3⟩ | ⟨q2, q3, q4, q5, q6⟩
  · subst q2
    exact yes
  subst q2
  show dactyllaw10_EmitCloses.j0 (69999 + 1) a0 a1 false = some true
  obtain ⟨l', e', h1', h2'⟩ := at0 69999 (by omega)
  have hle : (l', e') = (l, (0 : Int)) := Option.some.inj ((at_rounds (g := fun k => emit_Parse.f k a0) (emit_Parse.mono a0) (by omega) h1').symm.trans h1)
  obtain ⟨m', f', q1', q2'⟩ := at1 69999 (by omega)
  have hme : (m', f') = (m, (0 : Int)) := Option.some.inj ((at_rounds (g := fun k => emit_Parse.f k a1) (emit_Parse.mono a1) (by omega) q1').symm.trans q1)
  obtain ⟨rfl, rfl⟩ := Prod.mk.inj hle
  obtain ⟨rfl, rfl⟩ := Prod.mk.inj hme
  have hm : ∀ x ∈ l' ++ m', mayB x = true := by
    intro x hx
    rcases List.mem_append.mp hx with hx | hx
    · exact (h4 x hx).1
    · exact (q4 x hx).1
  have hfew : Few (l' ++ m') := by
    refine ⟨by rw [List.length_append]; omega, fun x hx => ?_⟩
    rcases List.mem_append.mp hx with hx | hx
    · have := (h4 x hx).2
      omega
    · have := (q4 x hx).2
      omega
  have hj := may_joined _ hm
  have hsz : (a0 ++ a1).size = a0.size + a1.size := ByteArray.size_append ..
  have ht : L (a0 ++ a1) = textS (joinS (l' ++ m')) := by rw [textS_joined, textS_app, h5, q5, L_app]
  have hjl : (joinS (l' ++ m')).length ≤ a0.size + a1.size := by
    have := len_text _ hj
    rw [← ht] at this
    have e1 : (L (a0 ++ a1)).length = (a0 ++ a1).size := rfl
    omega
  have hp : emit_Parse.f 69999 (a0 ++ a1) = some (joinS (l' ++ m'), 0) := by
    have := parse_back (joinS (l' ++ m')) 69999 (a0 ++ a1) [] (by omega) (by omega) (by simp; omega) hj (norm_joined _) ht
    rw [List.nil_append] at this
    exact this
  simp only [dactyllaw10_EmitCloses.j0]
  rw [if_neg (by decide), h1', q1']
  simp only [Option.bind_some]
  rw [if_pos (by omega), hp, awake_eq]
  simp only [Option.bind_some, if_true, List.nil_append, List.length_nil]
  rw [if_pos (by omega), if_pos (by omega), ref_joined _ hfew 69999 (by rw [List.length_append]; omega)]
  simp only [Option.bind_some]
  rw [same_self _ (by omega) 69999 (by omega)]
  rfl
end Go.Proofs.Ytddkmhkglmcihaa.Pure
