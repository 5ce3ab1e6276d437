/- Plain facts: the bytes and the values of what is shown do no harm; pieces of two texts. -/
import Derived.Test.YtddkmhkglmcihaaPAllx15
import Derived.Test.YtddkmhkglmcihaaPAllx8
import Derived.Test.YtddkmhkglmcihaaQEmit8
set_option linter.unusedVariables false
set_option linter.unusedSimpArgs false
namespace Go.Proofs.Ytddkmhkglmcihaa.Q
open Go.RowKit Go.Proofs.Ytddkmhkglmcihaa.PAll Go.Proofs.YtddkmhkglmcihaaW.PrintWords Go.Proofs.YtddkmhkglmcihaaW.PrintLast Go.Proofs.YtddkmhkglmcihaaW.PrintMore
def goodL : List UInt8 → Bool
  | [] => true
  | x :: l => (decide (32 ≤ x.toNat ∧ x.toNat ≠ 127) || (x == 7 || (x == 10 || (x == 13 || (x == 27 && l.head? == some 91))))) && goodL l
theorem good_app (a b : List UInt8) (ha : goodL a = true) (hb : goodL b = true) : goodL (a ++ b) = true := by
  induction a with
  | nil => exact hb
  | cons x a ih =>
    unfold goodL at ha
    rw [Bool.and_eq_true] at ha
    show goodL (x :: (a ++ b)) = true
    unfold goodL
    rw [Bool.and_eq_true]
    refine ⟨?_, ih ha.2⟩
    have h1 := ha.1
    simp only [Bool.or_eq_true, Bool.and_eq_true, beq_iff_eq] at h1 ⊢
    rcases h1 with h | h | h | h | h
    · exact .inl h
    · exact .inr (.inl h)
    · exact .inr (.inr (.inl h))
    · exact .inr (.inr (.inr (.inl h)))
    · refine .inr (.inr (.inr (.inr ⟨h.1, ?_⟩)))
      cases a with
      | nil => cases h.2
      | cons y a => exact h.2
theorem good_plain (l : List UInt8) (h : ∀ x ∈ l, 32 ≤ x.toNat ∧ x.toNat ≠ 127) : goodL l = true := by
  induction l with
  | nil => rfl
  | cons x l ih =>
    unfold goodL
    rw [ih (fun y hy => h y (List.mem_cons_of_mem _ hy)), decide_eq_true (h x (List.mem_cons_self))]
    rfl
theorem ctl_bytes (o : O) (h : mayB o = true) (h0 : o.f0 ≠ 0) : (∃ t, bytesS o = 27 :: 91 :: t ∧ ∀ x ∈ t, 32 ≤ x.toNat ∧ x.toNat < 127) ∨ bytesS o = [7] ∨ bytesS o = [13] ∨ bytesS o = [10] := by
  rcases may_cases o h with ⟨c, _⟩ | ⟨_, h⟩
  · exact absurd c h0
  unfold bytesS
  rcases h with ⟨c, h1, h2, h3, h4⟩ | ⟨c, h2, h3, h4⟩ | ⟨c, h2, h3, h4⟩ | ⟨h1, h2, c⟩
  · rw [if_neg (by omega), if_pos c]
    obtain ⟨_, _, _, _, _, z3, _, _⟩ := dec_fact o.f1 h1 h2
    obtain ⟨_, _, _, _, _, z4, _, _⟩ := dec_fact o.f2 h3 h4
    refine .inl ⟨dec o.f1 ++ 59 :: (dec o.f2 ++ [72]), by simp, ?_⟩
    intro x hx
    rcases List.mem_append.mp hx with hx | hx
    · have := z3 x hx
      omega
    · rcases List.mem_cons.mp hx with hx | hx
      · rw [hx]
        decide
      · rcases List.mem_append.mp hx with hx | hx
        · have := z4 x hx
          omega
        · have : x = 72 := by simpa using hx
          rw [this]
          decide
  · rw [if_neg (by omega), if_neg (by omega), if_neg (by omega), if_neg (by omega), if_pos c]
    refine .inl ⟨_, rfl, ?_⟩
    exact looks8 (fun n => ∀ x ∈ L (emit_looks.t n.toNat), 32 ≤ x.toNat ∧ x.toNat < 127) (by decide) o.f1 h3 h4
  · rw [if_neg (by omega), if_neg (by omega), if_neg (by omega), if_neg (by omega), if_neg (by omega), if_pos c]
    split
    · exact .inl ⟨_, rfl, by decide⟩
    · exact .inl ⟨_, rfl, by decide⟩
  · rcases c with c | c | c | c | c <;> rw [c]
    · exact .inl ⟨_, rfl, by decide⟩
    · exact .inl ⟨_, rfl, by decide⟩
    · exact .inr (.inl rfl)
    · exact .inr (.inr (.inl rfl))
    · exact .inr (.inr (.inr rfl))
theorem good_bytes (o : O) (h : mayB o = true) : goodL (bytesS o) = true := by
  by_cases c : o.f0 = 0
  · rw [bytes_0 o c]
    exact good_plain _ (plain_byte _ ((may_0 o c).mp h).2.2)
  · rcases ctl_bytes o h c with ⟨t, h1, h2⟩ | h1 | h1 | h1
    · rw [h1]
      exact good_app [27, 91] t (by decide) (good_plain t (fun x hx => ⟨(h2 x hx).1, by have := (h2 x hx).2; omega⟩))
    · rw [h1]
      decide
    · rw [h1]
      decide
    · rw [h1]
      decide
theorem good_text (l : List O) (h : ∀ x ∈ l, mayB x = true) : goodL (textS l) = true := by
  induction l with
  | nil => rfl
  | cons o l ih =>
    rw [textS_cons]
    exact good_app _ _ (good_bytes o (h o (List.mem_cons_self))) (ih (fun x hx => h x (List.mem_cons_of_mem _ hx)))
theorem vals_low (l : List UInt8) (h : ∀ x ∈ l, x.toNat < 128) : ∀ v ∈ vals l, ∃ x ∈ l, v = (x.toNat : Int) := by
  induction l with
  | nil => intro v hv; cases hv
  | cons x l ih =>
    intro v hv
    rw [vals_ascii x l (h x (List.mem_cons_self))] at hv
    rcases List.mem_cons.mp hv with hv | hv
    · exact ⟨x, List.mem_cons_self, hv⟩
    · obtain ⟨y, hy, he⟩ := ih (fun z hz => h z (List.mem_cons_of_mem _ hz)) v hv
      exact ⟨y, List.mem_cons_of_mem _ hy, he⟩
theorem ctl_low (o : O) (h : mayB o = true) (h0 : o.f0 ≠ 0) : ∀ x ∈ bytesS o, x.toNat < 127 := by
  intro x hx
  rcases ctl_bytes o h h0 with ⟨t, h1, h2⟩ | h1 | h1 | h1 <;> rw [h1] at hx
  · rcases List.mem_cons.mp hx with hx | hx
    · rw [hx]
      decide
    · rcases List.mem_cons.mp hx with hx | hx
      · rw [hx]
        decide
      · have := (h2 x hx).2
        omega
  · have : x = 7 := by simpa using hx
    rw [this]
    decide
  · have : x = 13 := by simpa using hx
    rw [this]
    decide
  · have : x = 10 := by simpa using hx
    rw [this]
    decide
theorem of_bytes (o : O) (h : mayB o = true) : ∀ v ∈ vals (bytesS o), ofS v ≤ 4 := by
  intro v hv
  by_cases c : o.f0 = 0
  · rw [bytes_0 o c] at hv
    have hp := ((may_0 o c).mp h).2.2
    unfold plainT at hp
    rw [Bool.and_eq_true] at hp
    have h2 := List.all_eq_true.mp hp.2 v hv
    have h3 : widS v ≠ 0 := by simpa using h2
    have z := wid_0 v
    omega
  · obtain ⟨x, hx, he⟩ := vals_low _ (fun x hx => by have := ctl_low o h c x hx; omega) v hv
    rw [he]
    have hc := ctl_low o h c x hx
    exact (ctl x.toNat (by omega)).1.resolve_left (by omega)
theorem fresh_bytes (o : O) (h : mayB o = true) : Fresh (bytesS o) := by
  by_cases c : o.f0 = 0
  · rw [bytes_0 o c]
    exact plain_fresh _ ((may_0 o c).mp h).2.2
  · have := bytes_first o h c []
    rw [List.append_nil] at this
    exact .inr (.inl (by omega))
theorem fresh_text (l : List O) (h : ∀ x ∈ l, mayB x = true) : Fresh (textS l) := by
  cases l with
  | nil => exact .inl rfl
  | cons o l =>
    have hm := h o (List.mem_cons_self)
    have hb := bytes_some o hm
    right
    rw [textS_cons, g_app_left _ _ 0 (List.length_pos_iff.mpr hb)]
    exact (fresh_bytes o hm).resolve_left hb
theorem of_text (l : List O) (h : ∀ x ∈ l, mayB x = true) : ∀ v ∈ vals (textS l), ofS v ≤ 4 := by
  induction l with
  | nil => intro v hv; cases hv
  | cons o l ih =>
    intro v hv
    have hl : ∀ x ∈ l, mayB x = true := fun x hx => h x (List.mem_cons_of_mem _ hx)
    rw [textS_cons, vals_app _ _ (fresh_text l hl)] at hv
    rcases List.mem_append.mp hv with hv | hv
    · exact of_bytes o (h o (List.mem_cons_self)) v hv
    · exact ih hl v hv
theorem len_text (l : List O) (h : ∀ x ∈ l, mayB x = true) : l.length ≤ (textS l).length := by
  induction l with
  | nil => exact Nat.le_refl _
  | cons o l ih =>
    have := ih (fun x hx => h x (List.mem_cons_of_mem _ hx))
    have := List.length_pos_iff.mpr (bytes_some o (h o (List.mem_cons_self)))
    rw [textS_cons, List.length_append, List.length_cons]
    omega
theorem ctl_l1 (vs : List Int) (hv : ∀ v ∈ vs, ofS v ≤ 4) (hl : vs.length ≤ 1000000) : ∀ (n k i : Nat), vs.length - i ≤ n → n + 150 ≤ k → i ≤ vs.length → dactyllaw10_EmitControls.l1 k vs (i : Int) = some true := by
  intro n
  induction n with
  | zero =>
    intro k i hi hk hle
    obtain ⟨k, rfl⟩ : ∃ m, k = m + 1 := ⟨k - 1, by omega⟩
    simp only [dactyllaw10_EmitControls.l1]
    rw [if_neg (by omega), awake_eq]
    rfl
  | succ n ih =>
    intro k i hi hk hle
    obtain ⟨k, rfl⟩ : ∃ m, k = m + 1 := ⟨k - 1, by omega⟩
    simp only [dactyllaw10_EmitControls.l1]
    by_cases c : i < vs.length
    · have r1 : rd vs (i : Int) = vs[i] := by
        unfold rd
        rw [Int.toNat_natCast, List.getD_eq_getElem?_getD, List.getElem?_eq_getElem c]
        rfl
      have w1 : wrap64 ((i : Int) + 1) = ((i + 1 : Nat) : Int) := by unfold wrap64; omega
      have hc := hv vs[i] (List.getElem_mem c)
      rw [if_pos (by omega), if_pos (by omega), r1, ref_of k _ (by omega), w1]
      simp only [Option.bind_some]
      rw [if_neg (by omega)]
      exact ih k (i + 1) (by omega) (by omega) (by omega)
    · rw [if_neg (by omega), awake_eq]
      rfl
theorem ctl_l0 (s : ByteArray) (hs : s.size ≤ 20000) (hv : ∀ v ∈ vals (L s), ofS v ≤ 4) : ∀ (n k i : Nat), s.size - i ≤ n → n + s.size + 300 ≤ k → i ≤ s.size → goodL ((L s).drop i) = true → dactyllaw10_EmitControls.l0 k s (i : Int) = some true := by
  have hl : (L s).length = s.size := rfl
  have hvl := vals_len (L s)
  have fin : ∀ k, s.size + 300 ≤ k → dactyllaw10_EmitControls.l0 k s (s.size : Int) = some true := by
    intro k hk
    obtain ⟨k, rfl⟩ : ∃ m, k = m + 1 := ⟨k - 1, by omega⟩
    simp only [dactyllaw10_EmitControls.l0]
    rw [if_neg (by omega), ref_dec k s (by omega) (by omega)]
    exact ctl_l1 (vals (L s)) hv (by omega) (vals (L s)).length k 0 (by omega) (by omega) (by omega)
  intro n
  induction n with
  | zero =>
    intro k i hi hk hle _
    have : i = s.size := by omega
    subst this
    exact fin k (by omega)
  | succ n ih =>
    intro k i hi hk hle hg
    by_cases c : i < s.size
    · obtain ⟨k, rfl⟩ : ∃ m, k = m + 1 := ⟨k - 1, by omega⟩
      have hb : bt s (i : Int) = ((L s)[i].toNat : Int) := by
        rw [bt_g, Int.toNat_natCast]
        unfold g
        rw [List.getD_eq_getElem?_getD, List.getElem?_eq_getElem (show i < (L s).length by omega)]
        rfl
      have w1 : wrap64 ((i : Int) + 1) = ((i + 1 : Nat) : Int) := by unfold wrap64; omega
      rw [List.drop_eq_getElem_cons (show i < (L s).length by omega)] at hg
      unfold goodL at hg
      rw [Bool.and_eq_true] at hg
      obtain ⟨h1, h2⟩ := hg
      have next := ih k (i + 1) (by omega) (by omega) (by omega) h2
      simp only [Bool.or_eq_true, Bool.and_eq_true, beq_iff_eq, decide_eq_true_eq] at h1
      simp only [dactyllaw10_EmitControls.l0]
      rw [if_pos (by omega), if_pos (by omega), w1, hb]
      rcases h1 with h | h | h | h | h
      · rw [if_neg (by omega), if_neg (by omega)]
        exact next
      · rw [h]
        exact next
      · rw [h]
        exact next
      · rw [h]
        exact next
      · have h3 := h.2
        rw [List.head?_drop] at h3
        have h4 : i + 1 < (L s).length := by
          by_cases d : i + 1 < (L s).length
          · exact d
          · rw [List.getElem?_eq_none (by omega)] at h3
            cases h3
        have hb2 : bt s ((i + 1 : Nat) : Int) = 91 := by
          rw [bt_g, Int.toNat_natCast]
          unfold g
          rw [List.getD_eq_getElem?_getD, h3]
          rfl
        rw [h.1, hb2, if_pos (by decide), if_neg (by decide), if_neg (by decide), if_neg (by decide), if_pos (by decide), if_neg (by omega), if_pos (by omega), if_pos (by omega), if_pos rfl, if_neg (by decide)]
        exact next
    · have : i = s.size := by omega
      subst this
      exact fin k (by omega)
end Go.Proofs.Ytddkmhkglmcihaa.Q
