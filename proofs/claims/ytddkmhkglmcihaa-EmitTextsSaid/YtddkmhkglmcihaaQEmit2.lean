/- Plain facts: the bytes of pieces that may be, one by one and in line, and pieces joined: the program and the reference tell the same. -/
import Derived.Test.YtddkmhkglmcihaaPAllx5
import Derived.Test.YtddkmhkglmcihaaPAllx13
import Derived.Test.YtddkmhkglmcihaaPAllx12
import Derived.Test.YtddkmhkglmcihaaPAllx14
import Derived.Test.YtddkmhkglmcihaaPAllx6
import Derived.Test.YtddkmhkglmcihaaQEmit1
set_option linter.unusedVariables false
set_option linter.unusedSimpArgs false
namespace Go.Proofs.Ytddkmhkglmcihaa.Q
open Go.RowKit Go.Proofs.Ytddkmhkglmcihaa.PAll Go.Proofs.YtddkmhkglmcihaaW.PrintWords Go.Proofs.YtddkmhkglmcihaaW.PrintLast Go.Proofs.YtddkmhkglmcihaaW.PrintMore
theorem dec_fact (n : Int) (h1 : 1 ≤ n) (h2 : n ≤ 1000) : ∃ s, num_Dec.f n = some s ∧ L s = dec n ∧ 1 ≤ s.size ∧ s.size ≤ 4 ∧ (∀ c ∈ dec n, 48 ≤ c.toNat ∧ c.toNat ≤ 57) ∧ (∀ k, 10 ≤ k → dactylref01_Dec.f k n = some s) ∧ (∀ k, 30 ≤ k → num_Undec.f k s = some (n, 0)) := by
  obtain ⟨m, rfl⟩ := Int.eq_ofNat_of_zero_le (show 0 ≤ n by omega)
  have hm := List.all_eq_true.mp dec_all m (List.mem_range.mpr (by omega))
  have hok : decOK m = true := by
    rcases Bool.or_eq_true _ _ |>.mp hm with h | h
    · have := of_decide_eq_true h
      omega
    · exact h
  unfold decOK at hok
  cases hd : num_Dec.f (m : Int) with
  | none => rw [hd] at hok; cases hok
  | some s =>
    rw [hd] at hok
    simp only [Bool.and_eq_true, decide_eq_true_eq] at hok
    obtain ⟨⟨⟨⟨q1, q2⟩, q3⟩, q4⟩, q5⟩ := hok
    have hL : L s = dec (m : Int) := by
      unfold dec
      rw [hd]
      rfl
    refine ⟨s, rfl, hL, q1, q2, ?_, ?_, ?_⟩
    · intro c hc
      rw [← hL] at hc
      exact of_decide_eq_true (List.all_eq_true.mp q3 c hc)
    · intro k hk
      cases hr : dactylref01_Dec.f 10 (m : Int) with
      | none => rw [hr] at q4; cases q4
      | some t =>
        rw [hr] at q4
        have := of_decide_eq_true q4
        subst this
        exact at_rounds (g := fun k => dactylref01_Dec.f k (m : Int)) (dactylref01_Dec.mono (m : Int)) hk hr
    · intro k hk
      cases hr : num_Undec.f 30 s with
      | none => rw [hr] at q5; cases q5
      | some x =>
        obtain ⟨x1, x2⟩ := x
        rw [hr] at q5
        simp only [Bool.and_eq_true, decide_eq_true_eq] at q5
        obtain ⟨rfl, rfl⟩ := q5
        exact at_rounds (g := fun k => num_Undec.f k s) (num_Undec.mono s) hk hr
/-- The bytes of a piece that may be. -/
def bytesS (o : O) : List UInt8 :=
  if o.f0 = 0 then L o.f3
  else if o.f0 = 1 then [27, 91] ++ dec o.f1 ++ [59] ++ dec o.f2 ++ [72]
  else if o.f0 = 2 then [27, 91, 50, 74]
  else if o.f0 = 3 then [27, 91, 75]
  else if o.f0 = 4 then [27, 91] ++ L (emit_looks.t o.f1.toNat)
  else if o.f0 = 5 then (if o.f1 = 1 then [27, 91, 63, 50, 48, 48, 52, 104] else [27, 91, 63, 50, 48, 48, 52, 108])
  else if o.f0 = 6 then [7] else if o.f0 = 7 then [13] else [10]
/-- The eight looks. -/
theorem looks8 (P : Int → Prop) (h : P 0 ∧ P 1 ∧ P 2 ∧ P 3 ∧ P 4 ∧ P 5 ∧ P 6 ∧ P 7) (n : Int) (h0 : 0 ≤ n) (h1 : n ≤ 7) : P n := by
  have : n = 0 ∨ n = 1 ∨ n = 2 ∨ n = 3 ∨ n = 4 ∨ n = 5 ∨ n = 6 ∨ n = 7 := by omega
  rcases this with rfl | rfl | rfl | rfl | rfl | rfl | rfl | rfl
  · exact h.1
  · exact h.2.1
  · exact h.2.2.1
  · exact h.2.2.2.1
  · exact h.2.2.2.2.1
  · exact h.2.2.2.2.2.1
  · exact h.2.2.2.2.2.2.1
  · exact h.2.2.2.2.2.2.2
/-- What a piece that may be is like, kind by kind. -/
theorem may_cases (o : O) (h : mayB o = true) :
    (o.f0 = 0 ∧ o.f1 = 0 ∧ o.f2 = 0 ∧ plainT (L o.f3) = true) ∨
    (L o.f3 = [] ∧ ((o.f0 = 1 ∧ 1 ≤ o.f1 ∧ o.f1 ≤ 1000 ∧ 1 ≤ o.f2 ∧ o.f2 ≤ 1000) ∨ (o.f0 = 4 ∧ o.f2 = 0 ∧ 0 ≤ o.f1 ∧ o.f1 ≤ 7) ∨ (o.f0 = 5 ∧ o.f2 = 0 ∧ 0 ≤ o.f1 ∧ o.f1 ≤ 1) ∨ (o.f1 = 0 ∧ o.f2 = 0 ∧ (o.f0 = 2 ∨ o.f0 = 3 ∨ o.f0 = 6 ∨ o.f0 = 7 ∨ o.f0 = 8)))) := by
  unfold mayB at h
  by_cases c0 : o.f0 = 0
  · rw [if_pos c0] at h
    simp only [Bool.and_eq_true, decide_eq_true_eq] at h
    exact .inl ⟨c0, h.1.1, h.1.2, h.2⟩
  rw [if_neg c0] at h
  rw [Bool.and_eq_true] at h
  refine .inr ⟨List.isEmpty_iff.mp h.1, ?_⟩
  have h2 := h.2
  by_cases c1 : o.f0 = 1
  · rw [if_pos c1] at h2
    exact .inl ⟨c1, of_decide_eq_true h2⟩
  rw [if_neg c1, Bool.and_eq_true, decide_eq_true_eq] at h2
  obtain ⟨hm, h2⟩ := h2
  by_cases c4 : o.f0 = 4
  · rw [if_pos c4] at h2
    exact .inr (.inl ⟨c4, hm, of_decide_eq_true h2⟩)
  rw [if_neg c4] at h2
  by_cases c5 : o.f0 = 5
  · rw [if_pos c5] at h2
    exact .inr (.inr (.inl ⟨c5, hm, of_decide_eq_true h2⟩))
  rw [if_neg c5] at h2
  simp only [Bool.and_eq_true, decide_eq_true_eq] at h2
  exact .inr (.inr (.inr ⟨h2.1, hm, h2.2⟩))
theorem lit_L (l : List UInt8) : L (⟨l.toArray⟩ : ByteArray) = l := rfl
theorem prog_bytes (o : O) (h : mayB o = true) : ∃ b, emit_bytes.f o.f0 o.f1 o.f2 o.f3 = some b ∧ L b = bytesS o := by
  rcases may_cases o h with ⟨c, _, _, _⟩ | ⟨_, h⟩
  · unfold emit_bytes.f bytesS
    rw [if_pos c, if_pos c]
    exact ⟨_, rfl, rfl⟩
  · rcases h with ⟨c, h1, h2, h3, h4⟩ | ⟨c, h2, h3, h4⟩ | ⟨c, h2, h3, h4⟩ | ⟨h1, h2, c⟩
    · obtain ⟨s, hs, hl, z1, z2, _⟩ := dec_fact o.f1 h1 h2
      obtain ⟨t, ht, hl2, z3, z4, _⟩ := dec_fact o.f2 h3 h4
      unfold emit_bytes.f bytesS
      rw [if_neg (by omega), if_pos c, if_neg (by omega), if_pos c, hs, ht]
      simp only [Option.bind_some, ByteArray.size_append, show (⟨#[27, 91]⟩ : ByteArray).size = 2 from rfl, show (⟨#[59]⟩ : ByteArray).size = 1 from rfl]
      rw [if_pos (by omega), if_pos (show 2 + s.size + 1 ≤ 9223372036854775807 by omega), if_pos (show 2 + s.size + 1 + t.size ≤ 9223372036854775807 by omega), if_pos (show 2 + s.size + 1 + t.size + 1 ≤ 9223372036854775807 by omega)]
      exact ⟨_, rfl, by rw [L_app, L_app, L_app, L_app, hl, hl2]⟩
    · unfold emit_bytes.f bytesS
      rw [if_neg (by omega), if_neg (by omega), if_neg (by omega), if_neg (by omega), if_pos c, if_neg (by omega), if_neg (by omega), if_neg (by omega), if_neg (by omega), if_pos c]
      refine looks8 (fun n => ∃ b, ((emit_looks.f n).bind fun t => if 2 + t.size ≤ 9223372036854775807 then some ((⟨#[27, 91]⟩ : ByteArray) ++ t) else none) = some b ∧ L b = [27, 91] ++ L (emit_looks.t n.toNat)) ?_ o.f1 h3 h4
      refine ⟨⟨_, rfl, rfl⟩, ⟨_, rfl, rfl⟩, ⟨_, rfl, rfl⟩, ⟨_, rfl, rfl⟩, ⟨_, rfl, rfl⟩, ⟨_, rfl, rfl⟩, ⟨_, rfl, rfl⟩, ⟨_, rfl, rfl⟩⟩
    · have hn : o.f1 = 0 ∨ o.f1 = 1 := by omega
      unfold bytesS
      rcases hn with e | e
      · rw [e, c]
        exact ⟨⟨#[27, 91, 63, 50, 48, 48, 52, 108]⟩, by kernel_rfl, rfl⟩
      · rw [e, c]
        exact ⟨⟨#[27, 91, 63, 50, 48, 48, 52, 104]⟩, by kernel_rfl, rfl⟩
    · unfold emit_bytes.f bytesS
      rcases c with c | c | c | c | c <;> rw [c] <;> exact ⟨_, rfl, rfl⟩
theorem ref_bytes (k : Nat) (o : O) (h : mayB o = true) (hk : 20 ≤ k) : ∃ b, dactylref10_Bytes.f k o.f0 o.f1 o.f2 o.f3 = some b ∧ L b = bytesS o := by
  rcases may_cases o h with ⟨c, _, _, _⟩ | ⟨_, h⟩
  · unfold dactylref10_Bytes.f bytesS
    rw [if_pos c, if_pos c]
    exact ⟨_, rfl, rfl⟩
  · rcases h with ⟨c, h1, h2, h3, h4⟩ | ⟨c, h2, h3, h4⟩ | ⟨c, h2, h3, h4⟩ | ⟨h1, h2, c⟩
    · obtain ⟨s, _, hl, z1, z2, _, hs, _⟩ := dec_fact o.f1 h1 h2
      obtain ⟨t, _, hl2, z3, z4, _, ht, _⟩ := dec_fact o.f2 h3 h4
      unfold dactylref10_Bytes.f bytesS
      rw [if_neg (by omega), if_pos c, if_neg (by omega), if_pos c, hs k (by omega), ht k (by omega)]
      simp only [Option.bind_some, ByteArray.size_append, show (⟨#[27, 91]⟩ : ByteArray).size = 2 from rfl, show (⟨#[59]⟩ : ByteArray).size = 1 from rfl]
      rw [if_pos (by omega), if_pos (show 2 + s.size + 1 ≤ 9223372036854775807 by omega), if_pos (show 2 + s.size + 1 + t.size ≤ 9223372036854775807 by omega), if_pos (show 2 + s.size + 1 + t.size + 1 ≤ 9223372036854775807 by omega)]
      exact ⟨_, rfl, by rw [L_app, L_app, L_app, L_app, hl, hl2]⟩
    · unfold dactylref10_Bytes.f bytesS
      rw [if_neg (by omega), if_neg (by omega), if_pos c, if_neg (by omega), if_neg (by omega), if_neg (by omega), if_neg (by omega), if_pos c]
      refine looks8 (fun n => ∃ b, ((dactylref10_Looks.f n).bind fun t => if 2 + t.size ≤ 9223372036854775807 then some ((⟨#[27, 91]⟩ : ByteArray) ++ t) else none) = some b ∧ L b = [27, 91] ++ L (emit_looks.t n.toNat)) ?_ o.f1 h3 h4
      refine ⟨⟨_, rfl, rfl⟩, ⟨_, rfl, rfl⟩, ⟨_, rfl, rfl⟩, ⟨_, rfl, rfl⟩, ⟨_, rfl, rfl⟩, ⟨_, rfl, rfl⟩, ⟨_, rfl, rfl⟩, ⟨_, rfl, rfl⟩⟩
    · have hn : o.f1 = 0 ∨ o.f1 = 1 := by omega
      unfold dactylref10_Bytes.f bytesS
      rcases hn with e | e <;> rw [e, c] <;> exact ⟨_, rfl, rfl⟩
    · unfold dactylref10_Bytes.f bytesS
      rcases c with c | c | c | c | c <;> rw [c] <;> exact ⟨_, rfl, rfl⟩
theorem bytes_len (o : O) (h : mayB o = true) : (bytesS o).length ≤ o.f3.size + 20 := by
  rcases may_cases o h with ⟨c, _, _, _⟩ | ⟨_, h⟩
  · unfold bytesS
    rw [if_pos c]
    show o.f3.size ≤ _
    omega
  · rcases h with ⟨c, h1, h2, h3, h4⟩ | ⟨c, h2, h3, h4⟩ | ⟨c, h2, h3, h4⟩ | ⟨h1, h2, c⟩
    · obtain ⟨s, hs, hl, z1, z2, _⟩ := dec_fact o.f1 h1 h2
      obtain ⟨t, ht, hl2, z3, z4, _⟩ := dec_fact o.f2 h3 h4
      unfold bytesS
      rw [if_neg (by omega), if_pos c, ← hl, ← hl2]
      have e1 : (L s).length = s.size := rfl
      have e2 : (L t).length = t.size := rfl
      simp only [List.length_append, List.length_cons, List.length_nil]
      omega
    · unfold bytesS
      rw [if_neg (by omega), if_neg (by omega), if_neg (by omega), if_neg (by omega), if_pos c]
      have : (L (emit_looks.t o.f1.toNat)).length ≤ 8 := looks8 (fun n => (L (emit_looks.t n.toNat)).length ≤ 8) (by decide) o.f1 h3 h4
      simp only [List.length_append, List.length_cons, List.length_nil]
      omega
    · unfold bytesS
      rw [if_neg (by omega), if_neg (by omega), if_neg (by omega), if_neg (by omega), if_neg (by omega), if_pos c]
      split <;> simp
    · unfold bytesS
      rcases c with c | c | c | c | c <;> rw [c] <;> simp
/-- The bytes of pieces. -/
def textS (l : List O) : List UInt8 := (l.map bytesS).flatten
theorem textS_cons (o : O) (l : List O) : textS (o :: l) = bytesS o ++ textS l := by simp [textS]
theorem rd_at (l : List O) (i : Nat) (h : i < l.length) : rd_T31 l (i : Int) = l[i] := by
  unfold rd_T31
  rw [Int.toNat_natCast, List.getD_eq_getElem?_getD, List.getElem?_eq_getElem h]
  rfl
/-- Pieces that are few, and short. -/
def Few (l : List O) : Prop := l.length ≤ 20000 ∧ ∀ o ∈ l, o.f3.size ≤ 20000
theorem text_l0 (l : List O) (hf : Few l) : ∀ (n k i : Nat) (acc : ByteArray), l.length - i ≤ n → n < k → i ≤ l.length → acc.size ≤ 30000 * i →
    ∃ b e, emit_Text.l0 k acc l (l.length : Int) (i : Int) = some (b, e) ∧ ((l.drop i).all mayB = true → e = 0 ∧ L b = L acc ++ textS (l.drop i)) ∧ (¬ (l.drop i).all mayB = true → e = 2 ∧ b = ⟨#[]⟩) := by
  intro n
  induction n with
  | zero =>
    intro k i acc hi hk hle ha
    obtain ⟨k, rfl⟩ : ∃ m, k = m + 1 := ⟨k - 1, by omega⟩
    refine ⟨acc, 0, ?_, ?_, ?_⟩
    · simp only [emit_Text.l0]
      rw [if_neg (by omega)]
    · intro _
      rw [List.drop_eq_nil_of_le (by omega)]
      exact ⟨rfl, by simp [textS]⟩
    · rw [List.drop_eq_nil_of_le (by omega)]
      simp
  | succ n ih =>
    intro k i acc hi hk hle ha
    obtain ⟨k, rfl⟩ : ∃ m, k = m + 1 := ⟨k - 1, by omega⟩
    by_cases c : i < l.length
    · have w1 : wrap64 ((i : Int) + 1) = ((i + 1 : Nat) : Int) := by have := hf.1; unfold wrap64; omega
      have hsz := hf.2 l[i] (List.getElem_mem c)
      simp only [emit_Text.l0]
      rw [if_pos (by omega), if_pos (by omega), if_pos (by omega), rd_at l i c, check_eq _ (by omega), List.drop_eq_getElem_cons c]
      simp only [Option.bind_some, List.all_cons]
      by_cases hm : mayB l[i] = true
      · obtain ⟨b, hb, hl⟩ := prog_bytes l[i] hm
        have hbl := bytes_len l[i] hm
        have e1 : (L b).length = b.size := rfl
        rw [hl] at e1
        rw [if_pos hm, if_pos rfl, hb]
        simp only [Option.bind_some]
        rw [if_pos (by have := hf.1; omega), w1]
        obtain ⟨b2, e2, h1, h2, h3⟩ := ih k (i + 1) (acc ++ b) (by omega) (by omega) (by omega) (by rw [ByteArray.size_append]; omega)
        refine ⟨b2, e2, h1, ?_, ?_⟩
        · intro hall
          rw [Bool.and_eq_true] at hall
          obtain ⟨h4, h5⟩ := h2 hall.2
          refine ⟨h4, ?_⟩
          rw [h5, L_app, hl, textS_cons, List.append_assoc]
        · intro hall
          rw [hm, Bool.true_and] at hall
          exact h3 hall
      · rw [if_neg hm, if_neg (by omega)]
        refine ⟨_, _, rfl, ?_, fun _ => ⟨rfl, rfl⟩⟩
        intro hall
        rw [Bool.and_eq_true] at hall
        exact absurd hall.1 hm
    · refine ⟨acc, 0, ?_, ?_, ?_⟩
      · simp only [emit_Text.l0]
        rw [if_neg (by omega)]
      · intro _
        rw [List.drop_eq_nil_of_le (by omega)]
        exact ⟨rfl, by simp [textS]⟩
      · rw [List.drop_eq_nil_of_le (by omega)]
        simp
theorem text_prog (l : List O) (hf : Few l) (k : Nat) (hk : l.length < k) : ∃ b e, emit_Text.f k l = some (b, e) ∧ (l.all mayB = true → e = 0 ∧ L b = textS l) ∧ (¬ l.all mayB = true → e = 2 ∧ b = ⟨#[]⟩) := by
  obtain ⟨b, e, h1, h2, h3⟩ := text_l0 l hf l.length k 0 ⟨#[]⟩ (by omega) hk (by omega) (by decide)
  rw [List.drop_zero] at h2 h3
  exact ⟨b, e, h1, fun h => ⟨(h2 h).1, by rw [(h2 h).2]; rfl⟩, h3⟩
theorem all_ref (l : List O) (hf : Few l) (k : Nat) (hk : 60000 < k) : dactylref10_All.f k l = some (l.all mayB) := by
  have key : ∀ (n k i : Nat), l.length - i ≤ n → n + 20400 ≤ k → i ≤ l.length → dactylref10_All.l0 k l (i : Int) = some ((l.drop i).all mayB) := by
    intro n
    induction n with
    | zero =>
      intro k i hi hk hle
      obtain ⟨k, rfl⟩ : ∃ m, k = m + 1 := ⟨k - 1, by omega⟩
      simp only [dactylref10_All.l0]
      rw [if_neg (by omega), List.drop_eq_nil_of_le (by omega)]
      rfl
    | succ n ih =>
      intro k i hi hk hle
      obtain ⟨k, rfl⟩ : ∃ m, k = m + 1 := ⟨k - 1, by omega⟩
      simp only [dactylref10_All.l0]
      by_cases c : i < l.length
      · have w1 : wrap64 ((i : Int) + 1) = ((i + 1 : Nat) : Int) := by have := hf.1; unfold wrap64; omega
        have hsz := hf.2 l[i] (List.getElem_mem c)
        rw [if_pos (by omega), if_pos (by omega), rd_at l i c, may_eq_ref k _ (by omega) (by omega), List.drop_eq_getElem_cons c, w1]
        simp only [Option.bind_some, List.all_cons]
        by_cases hm : mayB l[i] = true
        · rw [if_pos hm, hm, Bool.true_and]
          exact ih k (i + 1) (by omega) (by omega) (by omega)
        · rw [if_neg hm]
          simp [hm]
      · rw [if_neg (by omega), List.drop_eq_nil_of_le (by omega)]
        rfl
  have := key l.length k 0 (by omega) (by have := hf.1; omega) (by omega)
  simpa [dactylref10_All.f] using this
theorem text_ref (l : List O) (hf : Few l) (k : Nat) (hk : 30000 < k) (hm : l.all mayB = true) : ∃ b, dactylref10_Text.f k l = some b ∧ L b = textS l := by
  have key : ∀ (n k i : Nat) (acc : ByteArray), l.length - i ≤ n → n + 30 ≤ k → i ≤ l.length → acc.size ≤ 30000 * i → ∃ b, dactylref10_Text.l0 k l acc (i : Int) = some b ∧ L b = L acc ++ textS (l.drop i) := by
    intro n
    induction n with
    | zero =>
      intro k i acc hi hk hle ha
      obtain ⟨k, rfl⟩ : ∃ m, k = m + 1 := ⟨k - 1, by omega⟩
      refine ⟨acc, ?_, ?_⟩
      · simp only [dactylref10_Text.l0]
        rw [if_neg (by omega)]
      · rw [List.drop_eq_nil_of_le (by omega)]
        simp [textS]
    | succ n ih =>
      intro k i acc hi hk hle ha
      obtain ⟨k, rfl⟩ : ∃ m, k = m + 1 := ⟨k - 1, by omega⟩
      simp only [dactylref10_Text.l0]
      by_cases c : i < l.length
      · have w1 : wrap64 ((i : Int) + 1) = ((i + 1 : Nat) : Int) := by have := hf.1; unfold wrap64; omega
        have hsz := hf.2 l[i] (List.getElem_mem c)
        have hmi := List.all_eq_true.mp hm l[i] (List.getElem_mem c)
        obtain ⟨b, hb, hl⟩ := ref_bytes k l[i] hmi (by omega)
        have hbl := bytes_len l[i] hmi
        have e1 : (L b).length = b.size := rfl
        rw [hl] at e1
        rw [if_pos (by omega), if_pos (by omega), rd_at l i c, hb, w1]
        simp only [Option.bind_some]
        rw [if_pos (by have := hf.1; omega)]
        obtain ⟨b2, h1, h2⟩ := ih k (i + 1) (acc ++ b) (by omega) (by omega) (by omega) (by rw [ByteArray.size_append]; omega)
        refine ⟨b2, h1, ?_⟩
        rw [h2, L_app, hl, List.drop_eq_getElem_cons c, textS_cons, List.append_assoc]
      · refine ⟨acc, ?_, ?_⟩
        · rw [if_neg (by omega)]
        · rw [List.drop_eq_nil_of_le (by omega)]
          simp [textS]
  obtain ⟨b, h1, h2⟩ := key l.length k 0 ⟨#[]⟩ (by omega) (by have := hf.1; omega) (by omega) (by decide)
  rw [List.drop_zero] at h2
  exact ⟨b, h1, by rw [h2]; rfl⟩
end Go.Proofs.Ytddkmhkglmcihaa.Q
