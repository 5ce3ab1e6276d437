/- The plain law of EmitTexts: what the walk computes is true for all pieces. -/
import Derived.Test.YtddkmhkglmcihaaPAllx16
import Derived.Test.YtddkmhkglmcihaaQEmit6
import Derived.Test.YtddkmhkglmcihaaQEmit8
import Derived.Test.YtddkmhkglmcihaaQEmit10
import Derived.Test.YtddkmhkglmcihaaOpen
set_option linter.unusedVariables false
set_option linter.unusedSimpArgs false
namespace Go.Proofs.Ytddkmhkglmcihaa.Pure
open Go.RowKit Go.Proofs.Ytddkmhkglmcihaa.PAll Go.Proofs.YtddkmhkglmcihaaW.PrintWords Go.Proofs.YtddkmhkglmcihaaW.PrintLast Go.Proofs.YtddkmhkglmcihaaW.PrintMore Go.Proofs.Ytddkmhkglmcihaa.Q
def lightO (l : List O) : Bool := l.all (fun o => decide (o.f3.size ≤ 200)) && decide (l.length ≤ 60)
theorem light_eq (l : List O) (hl : l.length ≤ 9223372036854775807) (k : Nat) (hk : l.length < k) : dactyllaw10_Light.f k l = some (lightO l) := by
  have key : ∀ (n k i : Nat), l.length - i ≤ n → n < k → i ≤ l.length → dactyllaw10_Light.l0 k l (i : Int) = some ((l.drop i).all (fun o => decide (o.f3.size ≤ 200)) && decide (l.length ≤ 60)) := by
    intro n
    induction n with
    | zero =>
      intro k i h0 hk hi
      obtain ⟨k, rfl⟩ : ∃ m, k = m + 1 := ⟨k - 1, by omega⟩
      simp only [dactyllaw10_Light.l0]
      rw [if_neg (by omega), List.drop_eq_nil_of_le (by omega), List.all_nil, Bool.true_and]
      congr 1
      exact decide_eq_decide.mpr (by omega)
    | succ n ih =>
      intro k i h0 hk hi
      obtain ⟨k, rfl⟩ : ∃ m, k = m + 1 := ⟨k - 1, by omega⟩
      simp only [dactyllaw10_Light.l0]
      by_cases c : i < l.length
      · have w1 : wrap64 ((i : Int) + 1) = ((i + 1 : Nat) : Int) := by unfold wrap64; omega
        rw [if_pos (by omega), if_pos (by omega), rd_at l i c, w1, List.drop_eq_getElem_cons c, List.all_cons]
        by_cases d : (l[i].f3.size : Int) > 200
        · rw [if_pos d, decide_eq_false (by omega)]
          rfl
        · rw [if_neg d, decide_eq_true (by omega), ih k (i + 1) (by omega) (by omega) (by omega), Bool.true_and]
      · rw [if_neg (by omega), List.drop_eq_nil_of_le (by omega), List.all_nil, Bool.true_and]
        congr 1
        exact decide_eq_decide.mpr (by omega)
  have := key l.length k 0 (by omega) hk (by omega)
  simpa [dactyllaw10_Light.f, lightO] using this
theorem texts_end (l m : List O) (hlen : l.length ≤ 60) (hsz : ∀ o ∈ l, o.f3.size ≤ 200) (b : ByteArray) (e : Int) (h1 : l.all mayB = true → e = 0 ∧ L b = textS l) (h2 : ¬ l.all mayB = true → e = 2 ∧ b = ⟨#[]⟩) (k : Nat) (hk : 200000000 ≤ k) (i : Int) (hi : ¬ i < (l.length : Int)) : dactyllaw10_EmitTexts.l0 (k + 1) l b e i = some true := by
  have hfew : Few l := ⟨by omega, fun o ho => by have := hsz o ho; omega⟩
  simp only [dactyllaw10_EmitTexts.l0]
  rw [if_neg hi, all_ref l hfew k (by omega)]
  simp only [Option.bind_some]
  by_cases c : l.all mayB = true
  · obtain ⟨rfl, hb⟩ := h1 c
    have hm : ∀ x ∈ l, mayB x = true := List.all_eq_true.mp c
    have hbl : (textS l).length ≤ 220 * l.length := by
      have : ∀ m : List O, (∀ x ∈ m, mayB x = true) → (∀ o ∈ m, o.f3.size ≤ 200) → (textS m).length ≤ 220 * m.length := by
        intro m
        induction m with
        | nil => intro _ _; exact Nat.le_refl _
        | cons o m ih =>
          intro g1 g2
          have a1 := bytes_len o (g1 o List.mem_cons_self)
          have a2 := g2 o List.mem_cons_self
          have a3 := ih (fun x hx => g1 x (List.mem_cons_of_mem _ hx)) (fun x hx => g2 x (List.mem_cons_of_mem _ hx))
          rw [textS_cons, List.length_append, List.length_cons]
          omega
      exact this l hm hsz
    have hbs : b.size = (textS l).length := by rw [← L_len, hb]
    have hjl : (joinS l).length ≤ l.length := by
      have : ∀ (m : List O) out, (m.foldl joinStep out).length ≤ out.length + m.length := by
        intro m
        induction m with
        | nil => intro out; exact Nat.le_refl _
        | cons o m ih => intro out; have h3 := step_len out o; have := ih (joinStep out o); rw [List.foldl_cons, List.length_cons]; omega
      have h9 := this l []
      have h10 : (joinS l).length ≤ ([] : List O).length + l.length := h9
      simpa using h10
    have hp : emit_Parse.f k b = some (joinS l, 0) := by
      have := parse_back (joinS l) k b [] (by omega) (by omega) (by simp; omega) (may_joined l hm) (norm_joined l) (by rw [textS_joined, hb])
      rw [List.nil_append] at this
      exact this
    obtain ⟨b2, h3, h4⟩ := text_ref l hfew k (by omega) c
    rw [if_pos c, hp, awake_eq, h3, ref_joined l hfew k (by omega), skelO_eq l ⟨by omega, fun o ho => by have := hsz o ho; omega⟩ hm k (by omega), skelO_ref l ⟨hlen, hsz⟩ hm k (by omega)]
    simp only [Option.bind_some, if_true]
    have hsl : (skelO l).length ≤ 100000 := by unfold skelO; rw [List.length_map]; omega
    rw [if_pos (by rw [tl, tl, hb, h4]), sameO_ref _ _ (by omega) k (by omega), sameO_ref _ _ hsl k (by omega)]
    simp
  · obtain ⟨rfl, rfl⟩ := h2 c
    rw [if_neg c, awake_eq]
    simp only [Option.bind_some, if_true]
    rw [if_pos (by rw [tl])]
    rfl
theorem texts_l0 (l m : List O) (hlen : l.length ≤ 60) (hsz : ∀ o ∈ l, o.f3.size ≤ 200) (b : ByteArray) (e : Int) (h1 : l.all mayB = true → e = 0 ∧ L b = textS l) (h2 : ¬ l.all mayB = true → e = 2 ∧ b = ⟨#[]⟩) : ∀ (n k i : Nat), l.length - i ≤ n → 200000000 + n < k → i ≤ l.length → dactyllaw10_EmitTexts.l0 k l b e (i : Int) = some true := by
  intro n
  induction n with
  | zero =>
    intro k i h0 hk hi
    obtain ⟨k, rfl⟩ : ∃ m, k = m + 1 := ⟨k - 1, by omega⟩
    exact texts_end l m hlen hsz b e h1 h2 k (by omega) i (by omega)
  | succ n ih =>
    intro k i h0 hk hi
    obtain ⟨k, rfl⟩ : ∃ m, k = m + 1 := ⟨k - 1, by omega⟩
    by_cases c : i < l.length
    · have hs := hsz _ (List.getElem_mem c)
      have w1 : wrap64 ((i : Int) + 1) = ((i + 1 : Nat) : Int) := by unfold wrap64; omega
      have e1 := check_eq l[i] (by omega)
      have e2 := may_eq_ref k l[i] (by omega) (by omega)
      have e3 := ih k (i + 1) (by omega) (by omega) (by omega)
      simp only [dactyllaw10_EmitTexts.l0]
      rw [if_pos (by omega), if_pos (by omega), rd_at l i c, e1, e2, w1, e3]
      simp only [Option.bind_some]
      cases mayB l[i] <;> rfl
    · exact texts_end l m hlen hsz b e h1 h2 k (by omega) i (by omega)
theorem EmitTexts : ∀ (l0 : List (S31)) (l1 : List (S31)), Open.G22 l0 → Open.G22 l1 → ∃ k, dactyllaw10_EmitTexts.f k l0 l1 = some true := by
  intro l m hl hm
  have hll : l.length ≤ 9223372036854775807 := hl.1
  have hml : m.length ≤ 9223372036854775807 := hm.1
  obtain ⟨K, hK⟩ : ∃ K, K = l.length + m.length + 200000100 := ⟨_, rfl⟩
  refine ⟨K, ?_⟩
  have aw : dactyllaw10_EmitTexts.j0 K l m true = some true := by
    obtain ⟨q, rfl⟩ : ∃ q, K = q + 1 := ⟨K - 1, by omega⟩
    simp only [dactyllaw10_EmitTexts.j0, if_true]
    rw [awake_eq]
    rfl
  unfold dactyllaw10_EmitTexts.f
  rw [light_eq l hll K (by omega), light_eq m hml K (by omega)]
  simp only [Option.bind_some]
  by_cases c1 : lightO l = true
  · rw [if_pos c1]
    by_cases c2 : lightO m = true
    · rw [c2]
      unfold lightO at c1 c2
      rw [Bool.and_eq_true] at c1 c2
      have hlen := of_decide_eq_true c1.2
      have hsz : ∀ o ∈ l, o.f3.size ≤ 200 := fun o ho => of_decide_eq_true (List.all_eq_true.mp c1.1 o ho)
      have hfew : Few l := ⟨by omega, fun o ho => by have := hsz o ho; omega⟩
      obtain ⟨q, rfl⟩ : ∃ q, K = q + 1 := ⟨K - 1, by omega⟩
      obtain ⟨b, e, h1, h2, h3⟩ := text_prog l hfew q (by omega)
      simp only [dactyllaw10_EmitTexts.j0, Bool.not_true, Bool.false_eq_true, if_false]
      rw [h1, sameO_prog l m (by omega) q (by omega), sameO_ref l m (by omega) q (by omega)]
      simp only [Option.bind_some, bne_self_eq_false, Bool.false_eq_true, if_false]
      exact texts_l0 l m hlen hsz b e h2 h3 l.length q 0 (by omega) (by omega) (by omega)
    · have : lightO m = false := by simpa using c2
      rw [this]
      exact aw
  · rw [if_neg c1, aw]
end Go.Proofs.Ytddkmhkglmcihaa.Pure
