/- Plain facts: pieces joined, as the reference tells it; what holds of joined pieces. -/
import Derived.Test.YtddkmhkglmcihaaPAllx14
import Derived.Test.YtddkmhkglmcihaaQEmit2
set_option linter.unusedVariables false
set_option linter.unusedSimpArgs false
namespace Go.Proofs.Ytddkmhkglmcihaa.Q
open Go.RowKit Go.Proofs.Ytddkmhkglmcihaa.PAll Go.Proofs.YtddkmhkglmcihaaW.PrintWords Go.Proofs.YtddkmhkglmcihaaW.PrintLast Go.Proofs.YtddkmhkglmcihaaW.PrintMore
def last (out : List O) : O := rd_T31 out ((out.length - 1 : Nat) : Int)
def merge (a b : O) : O := ⟨a.f0, a.f1, a.f2, a.f3 ++ b.f3⟩
def joinStep (out : List O) (o : O) : List O := if out ≠ [] ∧ o.f0 = 0 ∧ (last out).f0 = 0 then out.take (out.length - 1) ++ [merge (last out) o] else out ++ [o]
/-- Pieces, texts side by side being one. -/
def joinS (l : List O) : List O := l.foldl joinStep []
theorem last_snoc (out : List O) (o : O) : last (out ++ [o]) = o := by
  unfold last
  rw [rd_at _ _ (by simp)]
  simp
theorem snoc_cases (out : List O) (h : out ≠ []) : out = out.take (out.length - 1) ++ [last out] := by
  have hl : 0 < out.length := List.length_pos_iff.mpr h
  unfold last
  rw [rd_at _ _ (by omega)]
  conv => lhs; rw [← List.take_append_drop (out.length - 1) out]
  congr 1
  rw [List.drop_eq_getElem_cons (by omega), List.drop_eq_nil_of_le (by omega)]
theorem step_snoc (out : List O) (p o : O) : joinStep (out ++ [p]) o = if o.f0 = 0 ∧ p.f0 = 0 then out ++ [merge p o] else out ++ [p] ++ [o] := by
  unfold joinStep
  rw [last_snoc]
  by_cases h : o.f0 = 0 ∧ p.f0 = 0
  · rw [if_pos ⟨by simp, h⟩, if_pos h]
    simp
  · rw [if_neg (fun g => h g.2), if_neg h]
theorem step_nil (o : O) : joinStep [] o = [o] := by
  unfold joinStep
  rw [if_neg (fun g => g.1 rfl)]
  rfl
theorem step_len (out : List O) (o : O) : (joinStep out o).length ≤ out.length + 1 := by
  unfold joinStep
  split <;> simp <;> omega
theorem ref_joined (l : List O) (hf : Few l) (k : Nat) (hk : l.length < k) : dactylref10_Joined.f k l = some (joinS l) := by
  have key : ∀ (n k i : Nat) (out : List O), l.length - i ≤ n → n < k → i ≤ l.length → out.length ≤ i → (∀ x ∈ out, x.f3.size ≤ 20000 * i) → dactylref10_Joined.l0 k l out (i : Int) = some ((l.drop i).foldl joinStep out) := by
    intro n
    induction n with
    | zero =>
      intro k i out hi hk hle ho hx
      obtain ⟨k, rfl⟩ : ∃ m, k = m + 1 := ⟨k - 1, by omega⟩
      simp only [dactylref10_Joined.l0]
      rw [if_neg (by omega), List.drop_eq_nil_of_le (by omega)]
      rfl
    | succ n ih =>
      intro k i out hi hk hle ho hx
      obtain ⟨k, rfl⟩ : ∃ m, k = m + 1 := ⟨k - 1, by omega⟩
      by_cases c : i < l.length
      · have w1 : wrap64 ((i : Int) + 1) = ((i + 1 : Nat) : Int) := by have := hf.1; unfold wrap64; omega
        have hsz := hf.2 l[i] (List.getElem_mem c)
        have h1 := hf.1
        have eta : (⟨l[i].f0, l[i].f1, l[i].f2, l[i].f3⟩ : O) = l[i] := rfl
        have hstep : ∀ x ∈ joinStep out l[i], x.f3.size ≤ 20000 * (i + 1) := by
          intro x hxm
          rcases List.eq_nil_or_concat out with h | ⟨o2, p, h⟩
          · subst h
            rw [step_nil] at hxm
            have : x = l[i] := by simpa using hxm
            rw [this]
            omega
          · rw [List.concat_eq_append] at h
            subst h
            rw [step_snoc] at hxm
            split at hxm
            · rcases List.mem_append.mp hxm with h | h
              · have := hx x (List.mem_append_left _ h)
                omega
              · have : x = merge p l[i] := by simpa using h
                rw [this]
                have hp := hx p (by simp)
                show (p.f3 ++ l[i].f3).size ≤ _
                rw [ByteArray.size_append]
                omega
            · rcases List.mem_append.mp hxm with h | h
              · have := hx x h
                omega
              · have : x = l[i] := by simpa using h
                rw [this]
                omega
        have hlen := step_len out l[i]
        have hn := ih k (i + 1) (joinStep out l[i]) (by omega) (by omega) (by omega) (by omega) hstep
        rw [List.drop_eq_getElem_cons c, List.foldl_cons, ← hn]
        simp only [dactylref10_Joined.l0]
        rw [if_pos (by omega), w1, rd_at l i c]
        simp only [Option.bind_some, eta]
        rcases List.eq_nil_or_concat out with h | ⟨o2, p, h⟩
        · subst h
          rw [step_nil, if_neg (by simp), if_pos (by omega), if_pos (by simp)]
          rfl
        · rw [List.concat_eq_append] at h
          subst h
          have hlo : (o2 ++ [p]).length = o2.length + 1 := by simp
          have w2 : wrap64 (((o2 ++ [p]).length : Int) - 1) = (((o2 ++ [p]).length - 1 : Nat) : Int) := by rw [hlo] at ho ⊢; unfold wrap64; omega
          have hlast : rd_T31 (o2 ++ [p]) (wrap64 (((o2 ++ [p]).length : Int) - 1)) = p := by
            rw [w2]
            exact last_snoc o2 p
          rw [hlast, w2, if_pos (by rw [hlo]; omega), if_pos (by omega)]
          by_cases c0 : l[i].f0 = 0
          · rw [if_pos c0, if_pos (by omega), if_pos (by rw [hlo]; omega)]
            by_cases c1 : p.f0 = 0
            · have hp := hx p (by simp)
              have hs : joinStep (o2 ++ [p]) l[i] = o2 ++ [merge p l[i]] := by rw [step_snoc, if_pos ⟨c0, c1⟩]
              rw [if_pos c1, if_pos (by omega), if_pos (by rw [hlo]; omega), hs]
              have e1 : (o2 ++ [p]).take (((((o2 ++ [p]).length - 1 : Nat) : Int)).toNat) = o2 := by
                rw [Int.toNat_natCast, hlo]
                simp
              rw [e1]
              simp only [List.nil_append, List.length_nil, List.length_cons]
              rw [if_pos (by omega), if_pos (by omega)]
              rfl
            · have hs : joinStep (o2 ++ [p]) l[i] = o2 ++ [p] ++ [l[i]] := by rw [step_snoc, if_neg (fun g => c1 g.2)]
              rw [if_neg c1, hs, if_pos (by simp only [hlo, List.length_cons, List.length_nil]; omega)]
          · have hs : joinStep (o2 ++ [p]) l[i] = o2 ++ [p] ++ [l[i]] := by rw [step_snoc, if_neg (fun g => c0 g.1)]
            rw [if_neg c0, hs, if_pos (by simp only [hlo, List.length_cons, List.length_nil]; omega)]
      · simp only [dactylref10_Joined.l0]
        rw [if_neg (by omega), List.drop_eq_nil_of_le (by omega)]
        rfl
  have := key l.length k 0 [] (by omega) hk (by omega) (by simp) (by simp)
  simpa [dactylref10_Joined.f, joinS] using this
/-- No two texts side by side. -/
def Norm (l : List O) : Prop := ∀ (a b : List O) (p q : O), l = a ++ p :: q :: b → ¬ (p.f0 = 0 ∧ q.f0 = 0)
theorem norm_nil : Norm [] := by
  intro a b p q h
  simp at h
theorem norm_one (o : O) : Norm [o] := by
  intro a b p q h
  have := congrArg List.length h
  simp at this
  omega
theorem norm_snoc (l : List O) (p o : O) (h : Norm (l ++ [p])) (hp : ¬ (o.f0 = 0 ∧ p.f0 = 0)) : Norm (l ++ [p] ++ [o]) := by
  intro a b x y e
  rcases List.eq_nil_or_concat b with hb | ⟨b2, z, hb⟩
  · subst hb
    have e2 : l ++ [p] ++ [o] = (a ++ [x]) ++ [y] := by rw [e]; simp
    obtain ⟨e3, e4⟩ := List.append_inj' e2 rfl
    obtain ⟨_, e5⟩ := List.append_inj' e3 rfl
    have : p = x := by simpa using e5
    have : o = y := by simpa using e4
    subst_vars
    exact fun g => hp ⟨g.2, g.1⟩
  · rw [List.concat_eq_append] at hb
    subst hb
    have e2 : l ++ [p] ++ [o] = (a ++ x :: y :: b2) ++ [z] := by rw [e]; simp
    obtain ⟨e3, _⟩ := List.append_inj' e2 rfl
    exact h a b2 x y e3
theorem norm_same (l : List O) (p q : O) (h : Norm (l ++ [p])) (hk : p.f0 = q.f0) : Norm (l ++ [q]) := by
  intro a b x y e
  rcases List.eq_nil_or_concat b with hb | ⟨b2, z, hb⟩
  · subst hb
    have e2 : l ++ [q] = (a ++ [x]) ++ [y] := by rw [e]; simp
    obtain ⟨e3, e4⟩ := List.append_inj' e2 rfl
    have : q = y := by simpa using e4
    subst this
    rw [← hk]
    exact h a [] x p (by rw [e3]; simp)
  · rw [List.concat_eq_append] at hb
    subst hb
    have e2 : l ++ [q] = (a ++ x :: y :: b2) ++ [z] := by rw [e]; simp
    obtain ⟨e3, _⟩ := List.append_inj' e2 rfl
    exact h a (b2 ++ [p]) x y (by rw [e3]; simp)
theorem norm_step (out : List O) (o : O) (h : Norm out) : Norm (joinStep out o) := by
  rcases List.eq_nil_or_concat out with e | ⟨o2, p, e⟩
  · subst e
    rw [step_nil]
    exact norm_one o
  · rw [List.concat_eq_append] at e
    subst e
    rw [step_snoc]
    split
    · exact norm_same o2 p _ h rfl
    · rename_i hn
      exact norm_snoc o2 p o h hn
theorem norm_fold (l : List O) : ∀ out, Norm out → Norm (l.foldl joinStep out) := by
  induction l with
  | nil => intro out h; exact h
  | cons o l ih => intro out h; exact ih _ (norm_step out o h)
theorem norm_joined (l : List O) : Norm (joinS l) := norm_fold l [] norm_nil
theorem fold_norm (l : List O) : ∀ out, Norm (out ++ l) → l.foldl joinStep out = out ++ l := by
  induction l with
  | nil => intro out _; simp
  | cons o l ih =>
    intro out h
    have hs : joinStep out o = out ++ [o] := by
      rcases List.eq_nil_or_concat out with e | ⟨o2, p, e⟩
      · subst e
        rw [step_nil]
        rfl
      · rw [List.concat_eq_append] at e
        subst e
        rw [step_snoc, if_neg]
        intro g
        exact h o2 l p o (by simp) ⟨g.2, g.1⟩
    rw [List.foldl_cons, hs, ih (out ++ [o]) (by simpa using h)]
    simp
theorem joined_norm (l : List O) (h : Norm l) : joinS l = l := by
  have := fold_norm l [] (by simpa using h)
  simpa [joinS] using this
theorem bytes_0 (o : O) (h : o.f0 = 0) : bytesS o = L o.f3 := by
  unfold bytesS
  rw [if_pos h]
theorem textS_app (a b : List O) : textS (a ++ b) = textS a ++ textS b := by simp [textS]
theorem textS_step (out : List O) (o : O) : textS (joinStep out o) = textS out ++ bytesS o := by
  rcases List.eq_nil_or_concat out with e | ⟨o2, p, e⟩
  · subst e
    rw [step_nil]
    simp [textS]
  · rw [List.concat_eq_append] at e
    subst e
    rw [step_snoc]
    split
    · rename_i h
      rw [textS_app, textS_app, textS_cons, textS_cons, bytes_0 _ (show (merge p o).f0 = 0 from h.2), bytes_0 _ h.2, bytes_0 _ h.1]
      show _ ++ (L (p.f3 ++ o.f3) ++ _) = _
      rw [L_app]
      simp [textS]
    · rw [textS_app, textS_app]
      simp [textS]
theorem textS_joined (l : List O) : textS (joinS l) = textS l := by
  have key : ∀ (l : List O) out, textS (l.foldl joinStep out) = textS out ++ textS l := by
    intro l
    induction l with
    | nil => intro out; simp [textS]
    | cons o l ih =>
      intro out
      rw [List.foldl_cons, ih, textS_step, textS_cons, List.append_assoc]
  have := key l []
  simpa [joinS, textS] using this
theorem one_stray (b : List UInt8) (h1 : 128 ≤ g b 0) (h2 : g b 0 ≤ 191) : one b = (1114112 + g b 0, 1) := by
  unfold one
  rw [oneI_0 _ _ _ _ _ (by omega) (fun h => by have := h.1; omega) (fun h => by have := h.1; omega) (fun h => by have := h.1; omega)]
  rfl
theorem wid_stray (x : Int) (h1 : 128 ≤ x) (h2 : x ≤ 255) : widS (1114112 + x) = 0 := by
  rw [wid_0]
  have : ofS (1114112 + x) = 12 := by
    unfold ofS
    rw [if_pos (by unfold rightB; exact decide_eq_true (by omega)), if_pos (by omega)]
  rw [this]
  omega
theorem plain_fresh (b : List UInt8) (h : plainT b = true) : Fresh b := by
  unfold plainT at h
  simp only [Bool.and_eq_true, Bool.not_eq_true'] at h
  obtain ⟨h1, h2⟩ := h
  have hb : b ≠ [] := by
    rintro rfl
    simp at h1
  by_cases c : g b 0 < 128 ∨ 191 < g b 0
  · exact .inr c
  · exfalso
    have e := one_stray b (by omega) (by omega)
    rw [vals_cons b hb, e, List.all_cons, Bool.and_eq_true] at h2
    have := h2.1
    rw [wid_stray _ (by omega) (by omega)] at this
    simp at this
theorem plain_app (a b : List UInt8) (ha : plainT a = true) (hb : plainT b = true) : plainT (a ++ b) = true := by
  have hf := plain_fresh b hb
  unfold plainT at ha hb ⊢
  simp only [Bool.and_eq_true, Bool.not_eq_true'] at ha hb ⊢
  refine ⟨?_, ?_⟩
  · cases a with
    | nil => simp at ha
    | cons x a => rfl
  · rw [vals_app a b hf, List.all_append, Bool.and_eq_true]
    exact ⟨ha.2, hb.2⟩
theorem may_0 (o : O) (h0 : o.f0 = 0) : mayB o = true ↔ (o.f1 = 0 ∧ o.f2 = 0 ∧ plainT (L o.f3) = true) := by
  unfold mayB
  rw [if_pos h0]
  simp only [Bool.and_eq_true, decide_eq_true_eq, and_assoc]
theorem may_step (out : List O) (o : O) (h : ∀ x ∈ out, mayB x = true) (ho : mayB o = true) : ∀ x ∈ joinStep out o, mayB x = true := by
  intro x hx
  rcases List.eq_nil_or_concat out with e | ⟨o2, p, e⟩
  · subst e
    rw [step_nil] at hx
    have : x = o := by simpa using hx
    rw [this]
    exact ho
  · rw [List.concat_eq_append] at e
    subst e
    rw [step_snoc] at hx
    split at hx
    · rename_i hh
      rcases List.mem_append.mp hx with h1 | h1
      · exact h x (List.mem_append_left _ h1)
      · have : x = merge p o := by simpa using h1
        rw [this]
        have hp := (may_0 p hh.2).mp (h p (by simp))
        have hq := (may_0 o hh.1).mp ho
        refine (may_0 _ (show (merge p o).f0 = 0 from hh.2)).mpr ⟨hp.1, hp.2.1, ?_⟩
        show plainT (L (p.f3 ++ o.f3)) = true
        rw [L_app]
        exact plain_app _ _ hp.2.2 hq.2.2
    · rcases List.mem_append.mp hx with h1 | h1
      · exact h x h1
      · have : x = o := by simpa using h1
        rw [this]
        exact ho
theorem may_joined (l : List O) (h : ∀ x ∈ l, mayB x = true) : ∀ x ∈ joinS l, mayB x = true := by
  have key : ∀ (l : List O) out, (∀ x ∈ out, mayB x = true) → (∀ x ∈ l, mayB x = true) → ∀ x ∈ l.foldl joinStep out, mayB x = true := by
    intro l
    induction l with
    | nil => intro out ho _; exact ho
    | cons o l ih =>
      intro out ho hl
      exact ih _ (may_step out o ho (hl o (List.mem_cons_self))) (fun x hx => hl x (List.mem_cons_of_mem _ hx))
  exact key l [] (by simp) h
end Go.Proofs.Ytddkmhkglmcihaa.Q
