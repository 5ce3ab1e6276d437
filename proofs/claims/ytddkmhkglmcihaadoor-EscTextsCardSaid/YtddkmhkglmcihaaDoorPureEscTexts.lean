/- The plain law of EscTexts: what the walk computes is true for all histories. -/
import Derived.Test.YtddkmhkglmcihaaDoorPAllx7
import Derived.Test.YtddkmhkglmcihaaDoorQEsc4
import Derived.Test.YtddkmhkglmcihaaDoorQEsc5
import Derived.Test.YtddkmhkglmcihaaDoorOpen
set_option linter.unusedVariables false
set_option linter.unusedSimpArgs false
namespace Go.Proofs.YtddkmhkglmcihaaDoor.Pure
open Go.RowKit Go.Proofs.YtddkmhkglmcihaaDoor.PAll Go.Proofs.YtddkmhkglmcihaaDoorW.PrintWords Go.Proofs.YtddkmhkglmcihaaDoorW.PrintLast Go.Proofs.YtddkmhkglmcihaaDoorW.PrintMore Go.Proofs.YtddkmhkglmcihaaDoor.Q
def lightH (h : List Ent) : Bool := h.all (fun l => decide (l.length ≤ 60)) && decide (h.length ≤ 30)
theorem lightH_eq (h : List Ent) (hl : h.length ≤ 9223372036854775807) (k : Nat) (hk : h.length < k) : dactyllaw22_light.f k h = some (lightH h) := by
  have key : ∀ (n k i : Nat), h.length - i ≤ n → n < k → i ≤ h.length → dactyllaw22_light.l0 k h (i : Int) = some ((h.drop i).all (fun l => decide (l.length ≤ 60)) && decide (h.length ≤ 30)) := by
    intro n
    induction n with
    | zero =>
      intro k i h0 hk hi
      obtain ⟨k, rfl⟩ : ∃ m, k = m + 1 := ⟨k - 1, by omega⟩
      simp only [dactyllaw22_light.l0]
      rw [if_neg (by omega), List.drop_eq_nil_of_le (by omega), List.all_nil, Bool.true_and]
      congr 1
      exact decide_eq_decide.mpr (by omega)
    | succ n ih =>
      intro k i h0 hk hi
      obtain ⟨k, rfl⟩ : ∃ m, k = m + 1 := ⟨k - 1, by omega⟩
      simp only [dactyllaw22_light.l0]
      by_cases c : i < h.length
      · rw [if_pos (by omega), if_pos (by omega), rdL_at h i c, w64_succ i (by omega), List.drop_eq_getElem_cons c, List.all_cons]
        by_cases d : (h[i].length : Int) > 60
        · rw [if_pos d, decide_eq_false (by omega)]
          rfl
        · rw [if_neg d, decide_eq_true (by omega), ih k (i + 1) (by omega) (by omega) (by omega), Bool.true_and]
      · rw [if_neg (by omega), List.drop_eq_nil_of_le (by omega), List.all_nil, Bool.true_and]
        congr 1
        exact decide_eq_decide.mpr (by omega)
  exact key h.length k 0 (by omega) hk (by omega)
theorem texts_l1 (h : List Ent) (hl : h.length ≤ 30) (h6 : ∀ l ∈ h, l.length ≤ 60) : ∀ (n k i j : Nat) (p : List Ent), h.length - i ≤ n → n + 300 ≤ k → i ≤ h.length → p.length = j → j ≤ i → fullH h = p ++ fullH (h.drop i) → dactyllaw22_EscTexts.l1 k h (fullH h) (j : Int) (i : Int) = some true := by
  have fin : ∀ (k i j : Nat) (p : List Ent), 200 ≤ k → h.length ≤ i → p.length = j → fullH h = p ++ fullH (h.drop i) → dactyllaw22_EscTexts.l1 k h (fullH h) (j : Int) (i : Int) = some true := by
    intro k i j p hk hi hp he
    obtain ⟨k, rfl⟩ : ∃ m, k = m + 1 := ⟨k - 1, by omega⟩
    have hj : (fullH h).length = j := by
      rw [he, List.drop_eq_nil_of_le hi, List.length_append, hp]
      rfl
    simp only [dactyllaw22_EscTexts.l1]
    rw [if_neg (by omega), awake22 k (by omega), hj]
    simp
  intro n
  induction n with
  | zero => intro k i j p h0 hk hi hp hj he; exact fin k i j p (by omega) (by omega) hp he
  | succ n ih =>
    intro k i j p h0 hk hi hp hj he
    by_cases c : i < h.length
    · obtain ⟨k, rfl⟩ : ∃ m, k = m + 1 := ⟨k - 1, by omega⟩
      have hli := h6 _ (List.getElem_mem c)
      simp only [dactyllaw22_EscTexts.l1]
      rw [if_pos (by omega), if_pos (by omega), rdL_at h i c, w64_succ i (by omega)]
      rw [List.drop_eq_getElem_cons c, fullH_cons] at he
      by_cases d : 0 < h[i].length
      · rw [if_pos d] at he
        have hjl : j < (fullH h).length := by rw [he, List.length_append, List.length_cons]; omega
        have hg : (fullH h)[j]'hjl = withS h[i] 3 := by
          simp only [he]
          rw [List.getElem_append_right (by omega)]
          simp [hp]
        have hwl := withS_len h[i] 3
        rw [if_neg (by omega), if_neg (by omega), if_pos (by omega), if_pos (by omega), with_ref h[i] 3 (by omega) k (by omega), rdL_at (fullH h) j hjl, hg]
        simp only [Option.bind_some]
        rw [same_sign _ _ (by omega) k (by omega)]
        simp only [Option.bind_some, decide_true, if_true]
        rw [w64_succ j (by omega)]
        exact ih k (i + 1) (j + 1) (p ++ [withS h[i] 3]) (by omega) (by omega) (by omega) (by rw [List.length_append, hp]; rfl) (by omega) (by rw [he, List.append_assoc]; rfl)
      · rw [if_neg d] at he
        rw [if_pos (by omega)]
        exact ih k (i + 1) j p (by omega) (by omega) (by omega) hp (by omega) he
    · exact fin k i j p (by omega) (by omega) hp he
theorem textsH_l0 (h : List Ent) (ho : okH h = true) (hl : h.length ≤ 30) (h6 : ∀ l ∈ h, l.length ≤ 60) (b : ByteArray) (hb : L b = textH h) : ∀ (n k i : Nat), h.length - i ≤ n → n + 600 ≤ k → i ≤ h.length → dactyllaw22_EscTexts.l0 k h b (i : Int) = some true := by
  have hsm : Small h := ⟨by omega, fun l hm => by have := h6 l hm; omega⟩
  have fin : ∀ (k i : Nat), 550 ≤ k → h.length ≤ i → dactyllaw22_EscTexts.l0 k h b (i : Int) = some true := by
    intro k i hk hi
    obtain ⟨k, rfl⟩ : ∃ m, k = m + 1 := ⟨k - 1, by omega⟩
    simp only [dactyllaw22_EscTexts.l0]
    rw [if_neg (by omega), read_text h ho hsm 30 60 (by omega) (by omega) (fun l hm => by have := h6 l hm; omega) (by omega) b hb k (by omega)]
    exact texts_l1 h hl h6 h.length k 0 0 [] (by omega) (by omega) (by omega) rfl (by omega) rfl
  intro n
  induction n with
  | zero => intro k i h0 hk hi; exact fin k i (by omega) (by omega)
  | succ n ih =>
    intro k i h0 hk hi
    by_cases c : i < h.length
    · obtain ⟨k, rfl⟩ : ∃ m, k = m + 1 := ⟨k - 1, by omega⟩
      have hli := h6 _ (List.getElem_mem c)
      have hoi : h[i].all okS = true := List.all_eq_true.mp ho _ (List.getElem_mem c)
      obtain ⟨s, h1, h2⟩ := line_prog h[i] (by omega) k (by omega) hoi
      obtain ⟨t, h3, h4⟩ := line_ref h[i] (by omega) k (by omega) hoi
      simp only [dactyllaw22_EscTexts.l0]
      rw [if_pos (by omega), if_pos (by omega), rdL_at h i c, h1, h3]
      simp only [Option.bind_some, if_true]
      have hwl := withS_len h[i] 3
      rw [if_pos (by rw [tl, tl, h2, h4]), unline_line h[i] hoi s h2 (by omega) 60 (by omega) k (by omega), with_ref h[i] 3 (by omega) k (by omega)]
      simp only [Option.bind_some]
      rw [same_sign _ _ (by omega) k (by omega)]
      simp only [Option.bind_some, decide_true, if_true]
      rw [w64_succ i (by omega)]
      exact ih k (i + 1) (by omega) (by omega) (by omega)
    · exact fin k i (by omega) (by omega)
theorem EscTexts : ∀ (l0 : List (List (S41))), Open.G22 l0 → ∃ k, dactyllaw22_EscTexts.f k l0 = some true := by
  intro h hg
  have hl : h.length ≤ 9223372036854775807 := hg.1
  obtain ⟨K, hK⟩ : ∃ K, K = h.length + 3000 := ⟨_, rfl⟩
  refine ⟨K, ?_⟩
  unfold dactyllaw22_EscTexts.f
  rw [lightH_eq h hl K (by omega)]
  simp only [Option.bind_some]
  by_cases c : lightH h = true
  · rw [if_pos c]
    unfold lightH at c
    rw [Bool.and_eq_true] at c
    have hlen := of_decide_eq_true c.2
    have h6 : ∀ l ∈ h, l.length ≤ 60 := fun l hm => of_decide_eq_true (List.all_eq_true.mp c.1 l hm)
    have hsm : Small h := ⟨by omega, fun l hm => by have := h6 l hm; omega⟩
    obtain ⟨b, e, h1, h2, h3⟩ := hist_prog h hsm K (by omega)
    rw [h1, all_hist h hsm K (by omega)]
    simp only [Option.bind_some]
    by_cases d : okH h = true
    · obtain ⟨rfl, hb⟩ := h2 d
      obtain ⟨b2, h4, h5⟩ := hist_ref h hsm K (by omega) d
      rw [if_pos d, if_pos rfl, h4]
      simp only [Option.bind_some]
      rw [show (b.toList != b2.toList) = false from by rw [tl, tl, hb, h5]; exact bne_self_eq_false _]
      obtain ⟨q, rfl⟩ : ∃ q, K = q + 1 := ⟨K - 1, by omega⟩
      simp only [dactyllaw22_EscTexts.j0, Bool.false_eq_true, if_false]
      exact textsH_l0 h d hlen h6 b hb h.length q 0 (by omega) (by omega) (by omega)
    · obtain ⟨rfl, rfl⟩ := h3 d
      rw [if_neg d, awake22 K (by omega)]
      simp only [Option.bind_some, if_true]
      rw [if_pos (by rw [tl])]
      rfl
  · rw [if_neg c, awake22 K (by omega)]
    rfl
end Go.Proofs.YtddkmhkglmcihaaDoor.Pure
