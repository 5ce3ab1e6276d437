/- The plain law of SpoofAlike. -/
import Derived.Test.YtpkmoonfnbcphaaPAllx9
import Derived.Test.YtpkmoonfnbcphaaQSp6
set_option linter.unusedVariables false
set_option linter.unusedSimpArgs false
namespace Go.Proofs.Ytpkmoonfnbcphaa.Pure
open Go.RowKit Go.Proofs.Ytpkmoonfnbcphaa.PAll Go.Proofs.YtpkmoonfnbcphaaW.PrintWords Go.Proofs.YtpkmoonfnbcphaaW.PrintLast Go.Proofs.YtpkmoonfnbcphaaW.PrintMore Go.Proofs.Ytpkmoonfnbcphaa.Q
theorem alike_all (a b c : ByteArray) (ha : a.size ≤ 200) (hb : b.size ≤ 200) (hc : c.size ≤ 200) : dactyllaw44_SpoofAlike.f 6001 a b c = some true := by
  unfold dactyllaw44_SpoofAlike.f
  rw [if_neg (by omega), if_neg (by omega), decide_eq_false (by omega)]
  obtain ⟨K, hK⟩ : ∃ K, K = 6000 := ⟨_, rfl⟩
  obtain ⟨t, r, h1, h2, h3, h4⟩ := fs_ref K a (by omega) (by omega)
  obtain ⟨t', r', g1, g2, g3, g4⟩ := fs_ref K b (by omega) (by omega)
  rw [show (6001 : Nat) = K + 1 by omega]
  simp only [dactyllaw44_SpoofAlike.j0, Bool.false_eq_true, if_false]
  rw [alike_prog K (by omega) a b (by omega) (by omega), alike_prog K (by omega) b c (by omega) (by omega), alike_prog K (by omega) a c (by omega) (by omega), alike_prog K (by omega) a a (by omega) (by omega), alike_prog K (by omega) b a (by omega) (by omega), awake44 K (by omega), h1, g1]
  simp only [Option.bind_some, if_true]
  rw [h3]
  simp only [Option.bind_some]
  rw [g3]
  simp only [Option.bind_some, tl]
  rw [h4, g4, aliS_symm (L b) (L a), aliS_refl (L a), if_pos (by unfold aliS; exact beq_self_eq_true _), if_pos rfl, if_pos (beq_self_eq_true _)]
  by_cases c1 : aliS (L a) (L b) = true
  · rw [if_pos c1]
    by_cases c2 : aliS (L b) (L c) = true
    · rw [if_pos c2, aliS_trans _ _ _ c1 c2]
    · rw [if_neg c2]
  · rw [if_neg c1]
theorem alike_awake (a b c : ByteArray) (h : a.size > 200 ∨ b.size > 200 ∨ c.size > 200) : dactyllaw44_SpoofAlike.f 6001 a b c = some true := by
  obtain ⟨K, hK⟩ : ∃ K, K = 6000 := ⟨_, rfl⟩
  rw [show (6001 : Nat) = K + 1 by omega]
  have e : dactyllaw44_SpoofAlike.j0 (K + 1) a b c true = some true := by
    simp only [dactyllaw44_SpoofAlike.j0, if_true]
    rw [awake44 K (by omega)]
    rfl
  unfold dactyllaw44_SpoofAlike.f
  by_cases c1 : a.size > 200
  · rw [if_pos (by omega), e]
  · rw [if_neg (by omega)]
    by_cases c2 : b.size > 200
    · rw [if_pos (by omega), e]
    · rw [if_neg (by omega), decide_eq_true (by omega), e]
theorem SpoofAlike : dactyllaw44_SpoofAlike.Pure := by
  intro a b c _ _ _
  refine ⟨6001, ?_⟩
  by_cases h : a.size > 200 ∨ b.size > 200 ∨ c.size > 200
  · exact alike_awake a b c h
  · exact alike_all a b c (by omega) (by omega) (by omega)
end Go.Proofs.Ytpkmoonfnbcphaa.Pure
