/- Proved here: the statement SpoofScripts of the rows: the law's function answers true for all of its arguments, and leaves them as they were. Conditions: those of the row, no others. -/
-- Written for this claim by the session's own program (wip/tool/rowgen.py).
import Derived.Test.YtpkmoonfnbcphaaRows
import Derived.Test.YtpkmoonfnbcphaaPAllx11
import Derived.Test.YtpkmoonfnbcphaaOpen
import Derived.Test.YtpkmoonfnbcphaaPureSpoofScripts
import Derived.WalkKit
import Derived.ProofKit
import Derived.OpenShut
import Derived.ShutString
import Derived.ChangeOld
import Derived.Below
import Derived.SizedLaws
namespace Go.Proofs.Ytpkmoonfnbcphaa.spoofScripts
open Go.ChangeShapes Go.WideShapes Go.ChangeAt Go.RowKit
open Go.ChangeMaps (open_string shut_string)
open Go.RowKit Go.Proofs.YtpkmoonfnbcphaaW.PrintWords Go.Proofs.YtpkmoonfnbcphaaW.PrintLast Go.Proofs.YtpkmoonfnbcphaaW.PrintMore Go.Proofs.Ytpkmoonfnbcphaa.PAll
set_option linter.unusedVariables false
set_option linter.unusedSimpArgs false
theorem own : ownKnob Try.prog.godebug = none := by kernel_rfl
theorem laidOut : laidOutB Try.prog = true := by kernel_rfl
set_option maxRecDepth 100000 in
theorem lifted (os : Os) (started : os.Started) (H : Type) (enc : TypeId × Value → H) :
    ReturnsInHanded {} Try.checked os 5 .any (Rows.spoofScriptsSpec.pre6 enc Try.prog Try.f5 Rows.spoofScriptsRow.domain false) (Rows.spoofScriptsSpec.post enc Try.prog Try.f5 false true false false) := by
  refine returnsInHanded_of_change_sized (C := Try.checked) own started (by kernel_rfl) Try.func5
    (ChangeSpec.witness6 (enc := enc) (C := Try.checked) false ⟨#[], #[.string ByteArray.empty, .slice none 0 0], []⟩ 8 (by kernel_rfl) (by kernel_rfl) (by kernel_rfl) (by kernel_rfl)) ?_
  intro W base args ds gs before hval0 hW hcnd hsz0 _
  have hval : ∀ (j : Nat) t v, Try.f5.params[j]? = some t → args[j]? = some v → Value.okWide Try.prog W .any base t v := hval0
  have hW' := hW
  obtain ⟨p, q, hA0, hV, rfl, hfz, hnd⟩ := hW
  have hA : DataW.TrodAll enc Try.prog W 0 (fun _ => true) true Try.f5.params.toList args.toList ds p := hA0
  rw [Try.params5] at hA hval
  obtain ⟨v0, vs0, d0, ds0, p0, q0, hargs, rfl, rfl, h0, r0⟩ := trodAll_cons hA
  obtain ⟨v1, vs1, d1, ds1, p1, q1, rfl, rfl, rfl, h1, r1⟩ := trodAll_cons r0
  obtain ⟨rfl, rfl, rfl⟩ := trodAll_nil r1
  obtain rfl : args = #[v0, v1] := by cases args; simp_all
  obtain ⟨rfl, rfl⟩ := trodVars_none hV
  obtain ⟨a0, rfl, rfl, rfl, y0⟩ := open_string Try.underlying9 (hval 0 9 v0 rfl rfl) h0
  have k1 := h1
  have lt1 : ∀ x ∈ p1, x.block < W.heap.size := by obtain ⟨m, hm⟩ := k1; exact DataW.trod_lt m _ _ _ hm
  obtain ⟨fu1, hf1⟩ := h1
  obtain ⟨z1, hK1, g1⟩ := Open.op30 enc W _ _ _ hf1
  obtain ⟨A1, c1, e1, hc1, hC1⟩ := hK1
  obtain rfl : v1 = .slice A1 z1.length c1 := by
    obtain ⟨a, len, cap, rfl⟩ := okWide_slice Try.underlying30 (hval 1 30 v1 rfl rfl)
    have e : a = A1 ∧ len = z1.length ∧ cap = c1 := by simpa [Value.cells] using e1
    obtain ⟨rfl, rfl, rfl⟩ := e
    rfl
  clear hA0 hval0 hsz0
  obtain ⟨kk, hP⟩ := Pure.SpoofScripts a0 z1 (by have := y0; unfold maxLen at this; exact this) g1
  refine (dactyllaw44_SpoofScripts.calls (k := kk) (a0 := a0) (A1 := A1) (c1 := c1) (l1 := z1) (hr1 := hC1) (hc1 := hc1) (r := true) (w := W) (h := hP)).mono fun e W' ⟨he, bel0⟩ => ?_
  have bel : Below W.heap.size W W' := bel0
  subst he
  exact ⟨_, rfl, _, _, _, [], _, [], hW', trodAll_mk1 (shut_bool Try.underlying4 _), (trodAll_cons_mk (shut_string Try.underlying9 y0) (trodAll_cons_mk (Below.trod laidOut (by kernel_rfl) (of_decide_eq_true (by kernel_rfl)) k1 bel lt1) trodAll_mk0)), rfl, bel.frame _, fun h => by cases h⟩
theorem over : Rows.spoofScriptsRow.holds Try.pinned (OpenSpec.ofChange Rows.spoofScriptsSpec) :=
  OpenClaim.holds_of_wide 5 Try.f5 rfl rfl rfl rfl rfl rfl rfl ⟨rfl, rfl, rfl, rfl, rfl⟩ rfl rfl rfl rfl rfl (by kernel_rfl) Try.func5 (by kernel_rfl)
    (of_decide_eq_true (by kernel_rfl)) (by unfold Func.isWrapper; first | (rw [if_pos (by decide +kernel)]; kernel_rfl) | (rw [if_neg (by decide +kernel)]; exact ⟨rfl, rfl⟩))
    (fun os started H enc _ => lifted os started H enc)
theorem proved : Rows.SpoofScriptsSaid := over
#print axioms proved
end Go.Proofs.Ytpkmoonfnbcphaa.spoofScripts
namespace Go.Proofs.Ytpkmoonfnbcphaa
/-- The row, under a short name, for the claim. -/
theorem spoofScripts_holds : Rows.SpoofScriptsSaid := spoofScripts.proved
end Go.Proofs.Ytpkmoonfnbcphaa
