/- Plain facts: reading a text into pieces ends, and what it answers stands for the text. -/
import Derived.Test.YtddkmhkglmcihaaPAllx8
import Derived.Test.YtddkmhkglmcihaaPAllx9
import Derived.Test.YtddkmhkglmcihaaQEmit4
set_option linter.unusedVariables false
set_option linter.unusedSimpArgs false
namespace Go.Proofs.Ytddkmhkglmcihaa.Q
open Go.RowKit Go.Proofs.Ytddkmhkglmcihaa.PAll Go.Proofs.YtddkmhkglmcihaaW.PrintWords Go.Proofs.YtddkmhkglmcihaaW.PrintLast Go.Proofs.YtddkmhkglmcihaaW.PrintMore
theorem bytes_some (o : O) (h : mayB o = true) : bytesS o ≠ [] := by
  rcases may_cases o h with ⟨c, _, _, h2⟩ | ⟨_, h⟩
  · rw [bytes_0 o c]
    intro e
    rw [e] at h2
    cases h2
  · intro e
    have e2 := congrArg List.length e
    unfold bytesS at e2
    rcases h with ⟨c, _⟩ | ⟨c, _⟩ | ⟨c, _⟩ | ⟨_, _, c⟩
    · rw [if_neg (by omega), if_pos c] at e2
      simp at e2
    · rw [if_neg (by omega), if_neg (by omega), if_neg (by omega), if_neg (by omega), if_pos c] at e2
      simp at e2
    · rw [if_neg (by omega), if_neg (by omega), if_neg (by omega), if_neg (by omega), if_neg (by omega), if_pos c] at e2
      split at e2 <;> simp at e2
    · rcases c with c | c | c | c | c <;> rw [c] at e2 <;> simp at e2
theorem pre32_next (l : List UInt8) : l.drop (pre32 l).length = [] ∨ g (l.drop (pre32 l).length) 0 < 32 := by
  unfold pre32
  induction l with
  | nil => exact .inl rfl
  | cons x l ih =>
    by_cases h : 32 ≤ x.toNat
    · rw [List.takeWhile_cons_of_pos (by simpa using h), List.length_cons, List.drop_succ_cons]
      exact ih
    · rw [List.takeWhile_cons_of_neg (by simpa using h)]
      exact .inr (by show (x.toNat : Int) < 32; omega)
theorem pre32_none (l : List UInt8) (h : l = [] ∨ g l 0 < 32) : pre32 l = [] := by
  unfold pre32
  cases l with
  | nil => rfl
  | cons x l =>
    rcases h with h | h
    · cases h
    · have h2 : (x.toNat : Int) < 32 := h
      exact List.takeWhile_cons_of_neg (by simp; omega)
/-- Pieces got so far, with the text that is left. -/
def Sofar (out : List O) (s : ByteArray) : Prop := Norm out ∧ ∀ o2 p, out = o2 ++ [p] → p.f0 = 0 → L s = [] ∨ g (L s) 0 < 32
theorem sofar_nil (s : ByteArray) : Sofar [] s := ⟨norm_nil, fun o2 p h => by simp at h⟩
theorem parse_l0 : ∀ (n k : Nat) (s : ByteArray) (out : List O), s.size ≤ n → n + 1000 + s.size ≤ k → s.size ≤ 20000 → out.length + s.size ≤ 1000000 →
    ∃ l e, emit_Parse.l0 k s out = some (l, e) ∧ ((e = 6 ∧ l = []) ∨ (e = 0 ∧ ∃ t, l = out ++ t ∧ t.length ≤ s.size ∧ (∀ x ∈ t, mayB x = true ∧ x.f3.size ≤ s.size) ∧ textS t = L s ∧ (Sofar out s → Norm l))) := by
  intro n
  induction n with
  | zero =>
    intro k s out hs hk _ ho
    obtain ⟨k, rfl⟩ : ∃ m, k = m + 1 := ⟨k - 1, by omega⟩
    have e : L s = [] := List.eq_nil_of_length_eq_zero (by show s.size = 0; omega)
    simp only [emit_Parse.l0]
    rw [if_pos (by rw [tl]; exact e)]
    exact ⟨_, _, rfl, .inr ⟨rfl, [], by simp, by simp, by simp, by rw [e]; rfl, fun h => h.1⟩⟩
  | succ n ih =>
    intro k s out hs hk hsz ho
    obtain ⟨k, rfl⟩ : ∃ m, k = m + 1 := ⟨k - 1, by omega⟩
    have hl : (L s).length = s.size := rfl
    simp only [emit_Parse.l0, tl]
    by_cases e : L s = []
    · rw [if_pos e]
      exact ⟨_, _, rfl, .inr ⟨rfl, [], by simp, by simp, by simp, by rw [e]; rfl, fun h => h.1⟩⟩
    · have h0 : 0 < s.size := by
        have := List.length_pos_iff.mpr e
        omega
      rw [if_neg e]
      obtain ⟨r, h1, h2, h3⟩ := one_cases s h0 (by omega) k (by omega)
      have hp := pre32_le (L s)
      have hsz3 : (emit_Parse.o r).f3.size ≤ s.size := by
        by_cases c : r.1 = 0
        · have := congrArg List.length (h2 c).2.2
          show r.2.2.2.size ≤ _
          have e1 : (L r.2.2.2).length = r.2.2.2.size := rfl
          omega
        · show r.2.2.2.size ≤ _
          rw [h3 c]
          exact Nat.zero_le _
      have hfew : Few [emit_Parse.o r] := by
        refine ⟨by simp, fun q hq => ?_⟩
        have hq2 : q = emit_Parse.o r := by simpa using hq
        rw [hq2]
        omega
      obtain ⟨b, e2, h4, h5, h6⟩ := text_prog [emit_Parse.o r] hfew k (by simp; omega)
      rw [h1]
      simp only [Option.bind_some]
      rw [h4]
      simp only [Option.bind_some]
      rw [cutPrefix_eq]
      simp only [Option.bind_some]
      by_cases hm : mayB (emit_Parse.o r) = true
      · obtain ⟨h7, h8⟩ := h5 (by simpa using hm)
        have hb : L b = bytesS (emit_Parse.o r) := by rw [h8]; simp [textS]
        rw [if_pos h7]
        by_cases hpre : (L b).isPrefixOf (L s) = true
        · rw [if_pos hpre, if_pos rfl, if_pos (by omega)]
          have hb0 := bytes_some _ hm
          have hbl : 0 < b.size := by
            have e1 : (L b).length = b.size := rfl
            have := List.length_pos_iff.mpr hb0
            rw [hb] at e1
            omega
          obtain ⟨rest, hrest⟩ := List.isPrefixOf_iff_prefix.mp hpre
          have hcut : L (s.extract b.size s.size) = rest := by
            rw [L_ext, ← hrest, show b.size = (L b).length from rfl, List.drop_left]
            refine List.take_of_length_le ?_
            have := congrArg List.length hrest
            simp only [List.length_append] at this
            omega
          have hsz2 : (s.extract b.size s.size).size + b.size = s.size := by
            have := congrArg List.length hrest
            simp only [List.length_append] at this
            have e1 : (L (s.extract b.size s.size)).length = (s.extract b.size s.size).size := rfl
            have e3 : (L b).length = b.size := rfl
            rw [hcut] at e1
            omega
          obtain ⟨l, e3, h9, h10⟩ := ih k (s.extract b.size s.size) (out ++ [emit_Parse.o r]) (by omega) (by omega) (by omega) (by rw [List.length_append, List.length_singleton]; omega)
          refine ⟨l, e3, h9, ?_⟩
          rcases h10 with h10 | ⟨h10, t, h11, h12, h13, h14, h15⟩
          · exact .inl h10
          · refine .inr ⟨h10, emit_Parse.o r :: t, by rw [h11]; simp, by rw [List.length_cons]; omega, ?_, ?_, ?_⟩
            · intro x hx
              rcases List.mem_cons.mp hx with hx | hx
              · rw [hx]
                exact ⟨hm, hsz3⟩
              · exact ⟨(h13 x hx).1, by have := (h13 x hx).2; omega⟩
            · rw [textS_cons, h14, hcut, ← hb, hrest]
            · intro hso
              refine h15 ⟨?_, ?_⟩
              · rcases List.eq_nil_or_concat out with ho | ⟨o2, p, ho⟩
                · subst ho
                  exact norm_one _
                · rw [List.concat_eq_append] at ho
                  subst ho
                  refine norm_snoc o2 p _ hso.1 ?_
                  rintro ⟨c1, c2⟩
                  have hn := pre32_none _ (hso.2 o2 p rfl c2)
                  have h16 := (h2 c1).2.2
                  rw [hn] at h16
                  have h17 := (may_0 _ c1).mp hm
                  have h18 : plainT (L r.2.2.2) = true := h17.2.2
                  rw [h16] at h18
                  cases h18
              · intro o2 p hop c1
                obtain ⟨_, hop2⟩ := List.append_inj' hop rfl
                have hp2 : emit_Parse.o r = p := by simpa using hop2
                subst hp2
                have h16 := (h2 c1).2.2
                rw [bytes_0 _ c1] at hb
                have hb2 : L b = pre32 (L s) := by rw [hb]; exact h16
                have hd : rest = (L s).drop (pre32 (L s)).length := by
                  rw [← hb2, ← hrest, List.drop_left]
                rw [hcut, hd]
                exact pre32_next _
        · rw [if_neg hpre, if_neg (by simp)]
          exact ⟨_, _, rfl, .inl ⟨rfl, rfl⟩⟩
      · obtain ⟨h7, _⟩ := h6 (by simpa using hm)
        rw [if_neg (by omega)]
        exact ⟨_, _, rfl, .inl ⟨rfl, rfl⟩⟩
theorem parse_all (s : ByteArray) (hs : s.size ≤ 20000) (k : Nat) (hk : 1000 + 2 * s.size ≤ k) :
    ∃ l e, emit_Parse.f k s = some (l, e) ∧ ((e = 6 ∧ l = []) ∨ (e = 0 ∧ l.length ≤ s.size ∧ (∀ x ∈ l, mayB x = true ∧ x.f3.size ≤ s.size) ∧ textS l = L s ∧ Norm l)) := by
  obtain ⟨l, e, h1, h2⟩ := parse_l0 s.size k s [] (by omega) (by omega) hs (by simp; omega)
  refine ⟨l, e, h1, ?_⟩
  rcases h2 with h2 | ⟨h2, t, h3, h4, h5, h6, h7⟩
  · exact .inl h2
  · rw [List.nil_append] at h3
    subst h3
    exact .inr ⟨h2, h4, h5, h6, h7 (sofar_nil s)⟩
theorem few_of {l : List O} {n : Nat} (hn : n ≤ 20000) (h1 : l.length ≤ n) (h2 : ∀ x ∈ l, mayB x = true ∧ x.f3.size ≤ n) : Few l := ⟨by omega, fun o ho => by have := (h2 o ho).2; omega⟩
end Go.Proofs.Ytddkmhkglmcihaa.Q
