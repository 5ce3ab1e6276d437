/- The plain law of SpoofScripts. -/
import Derived.Test.YtpkmoonfnbcphaaPAllx11
import Derived.Test.YtpkmoonfnbcphaaQSp6
import Derived.Test.YtpkmoonfnbcphaaOpen
set_option linter.unusedVariables false
set_option linter.unusedSimpArgs false
namespace Go.Proofs.Ytpkmoonfnbcphaa.Pure
open Go.RowKit Go.Proofs.Ytpkmoonfnbcphaa.PAll Go.Proofs.YtpkmoonfnbcphaaW.PrintWords Go.Proofs.YtpkmoonfnbcphaaW.PrintLast Go.Proofs.YtpkmoonfnbcphaaW.PrintMore Go.Proofs.Ytpkmoonfnbcphaa.Q
theorem rdOf_at (l : List ByteArray) (i : Nat) (h : i < l.length) : rdOf ByteArray.empty l (i : Int) = l[i] := by
  unfold rdOf
  rw [Int.toNat_natCast, List.getD_eq_getElem?_getD, List.getElem?_eq_getElem h]
  rfl
/-- The first place from i on, below n, where a text is alike; else what was found before. -/
theorem find_tail (s : ByteArray) (l : List ByteArray) (i : Nat) (h : i < l.length) : idx_string.g (findP s) (l.drop i) i = if findP s l[i] = true then (i : Int) else idx_string.g (findP s) (l.drop (i + 1)) (i + 1) := by
  rw [List.drop_eq_getElem_cons h]
  rfl
theorem scr_end (K : Nat) (hK : 5000 ≤ K) (s : ByteArray) (l : List ByteArray) (hs : s.size ≤ 200) (hl : l.length ≤ 12) (ht : ∀ t ∈ l, t.size ≤ 200) : dactyllaw44_SpoofScripts.l1 (K + 1) s l (scrL (vals (L s))) (idx_string.g (findP s) l 0) (-1) = some true := by
  have hlen := scrL_len (vals (L s))
  simp only [dactyllaw44_SpoofScripts.l1]
  rw [if_neg (by omega), has_ref K s 1 (by omega) (by omega), has_ref K s 2 (by omega) (by omega), has_ref K s 3 (by omega) (by omega), awake44 K (by omega), scripts_prog K s (by omega) (by omega), mixed_prog K s (by omega) (by omega), find_prog K (by omega) s l (by omega) (by omega) (fun t h => by have := ht t h; omega)]
  simp only [Option.bind_some, if_true]
  rw [ints_eq _ _ (by omega) K (by omega)]
  simp only [Option.bind_some, decide_true, if_true]
  unfold mixS
  generalize idx_string.g (findP s) l 0 = at_
  generalize hasS (vals (L s)) 1 = b1
  generalize hasS (vals (L s)) 2 = b2
  generalize hasS (vals (L s)) 3 = b3
  cases b1 <;> cases b2 <;> cases b3 <;> simp
theorem scr_l1 (K : Nat) (hK : 5000 ≤ K) (s : ByteArray) (l : List ByteArray) (hs : s.size ≤ 200) (hl : l.length ≤ 12) : ∀ (i : Nat), i ≤ l.length → (∀ t ∈ l.drop i, t.size ≤ 200) → dactyllaw44_SpoofScripts.l1 (K + 1 + i) s l (scrL (vals (L s))) (idx_string.g (findP s) (l.drop i) i) ((i : Int) - 1) = some true := by
  intro i
  induction i with
  | zero =>
    intro _ ht
    rw [List.drop_zero] at *
    exact scr_end K hK s l hs hl ht
  | succ i ih =>
    intro hi ht
    have c : i < l.length := hi
    obtain ⟨k, hk⟩ : ∃ k, k = K + 1 + i := ⟨_, rfl⟩
    have e1 : ((i + 1 : Nat) : Int) - 1 = (i : Int) := by omega
    have e2 : wrap64 ((i : Int) - 1) = (i : Int) - 1 := by unfold wrap64; omega
    rw [e1, show K + 1 + (i + 1) = k + 1 by omega]
    simp only [dactyllaw44_SpoofScripts.l1]
    rw [if_pos (by omega), if_pos (by omega), if_pos (by omega), rdOf_at l i c, e2]
    by_cases d : (l[i].size : Int) > 200
    · rw [if_pos d, awake44 k (by omega)]
      rfl
    · have hall : ∀ t ∈ l.drop i, t.size ≤ 200 := by
        intro t h
        rw [List.drop_eq_getElem_cons c] at h
        rcases List.mem_cons.mp h with rfl | h
        · omega
        · exact ht t h
      have ih' := ih (by omega) hall
      rw [← hk, find_tail s l i c] at ih'
      rw [if_neg d]
      by_cases e : l[i].toList = s.toList
      · have hp : findP s l[i] = false := by unfold findP; rw [e, bne_self_eq_false]; rfl
        rw [if_neg (by rw [hp]; decide)] at ih'
        rw [if_pos e, ih']
      · obtain ⟨t, r, h1, h2, h3, h4⟩ := fs_ref k l[i] (by omega) (by omega)
        obtain ⟨t', r', g1, g2, g3, g4⟩ := fs_ref k s (by omega) (by omega)
        have hp : findP s l[i] = aliS (L s) (L l[i]) := by unfold findP; rw [bne_iff_ne.mpr e]; rfl
        rw [hp] at ih'
        rw [if_neg e, h1]
        simp only [Option.bind_some]
        rw [h3]
        simp only [Option.bind_some]
        rw [g1]
        simp only [Option.bind_some]
        rw [g3]
        simp only [Option.bind_some, tl]
        rw [h4, g4]
        unfold aliS at ih'
        by_cases f : foldL (stripL (L l[i])) = foldL (stripL (L s))
        · rw [if_pos (beq_iff_eq.mpr f.symm)] at ih'
          rw [if_pos f, ih']
        · rw [if_neg (by rw [beq_iff_eq]; exact fun h => f h.symm)] at ih'
          rw [if_neg f, ih']
theorem scr_l0 (K : Nat) (hK : 6000 ≤ K) (s : ByteArray) (l : List ByteArray) (hs : s.size ≤ 200) (hl : l.length ≤ 12) : dactyllaw44_SpoofScripts.l0 (K + 5) s l [] 1 = some true := by
  have step : ∀ (m : Nat) (acc : List Int) (c : Int), acc.length ≤ 10 → 1 ≤ c → c ≤ 4 → dactyllaw44_SpoofScripts.l0 (K + m + 1) s l acc c = dactyllaw44_SpoofScripts.l0 (K + m) s l (if hasS (vals (L s)) c = true then acc ++ [c] else acc) (c + 1) := by
    intro m acc c h0 h1 h2
    simp only [dactyllaw44_SpoofScripts.l0]
    rw [if_pos h2, has_ref (K + m) s c (by omega) (by omega), show wrap64 (c + 1) = c + 1 from by unfold wrap64; omega]
    simp only [Option.bind_some]
    by_cases d : hasS (vals (L s)) c = true
    · rw [if_pos d, if_pos d, if_pos (by omega)]
    · rw [if_neg d, if_neg d]
  have hlast : ∀ acc, acc = scrL (vals (L s)) → dactyllaw44_SpoofScripts.l0 (K + 1) s l acc 5 = some true := by
    rintro acc rfl
    simp only [dactyllaw44_SpoofScripts.l0]
    rw [if_neg (by decide), show wrap64 ((l.length : Int) - 1) = (l.length : Int) - 1 from by unfold wrap64; omega]
    obtain ⟨M, hM⟩ : ∃ M, K = M + 1 + l.length := ⟨K - 1 - l.length, by omega⟩
    have := scr_l1 M (by omega) s l hs hl l.length (Nat.le_refl _) (by rw [List.drop_length]; intro t h; cases h)
    rw [List.drop_length, ← hM] at this
    exact this
  have s4 := step 4 [] 1 (by decide) (by decide) (by decide)
  rw [show K + 4 + 1 = K + 5 from rfl] at s4
  rw [s4, step 3 _ (1 + 1) (by split <;> decide) (by decide) (by decide), step 2 _ (1 + 1 + 1) (by (repeat' split) <;> decide) (by decide) (by decide), step 1 _ (1 + 1 + 1 + 1) (by (repeat' split) <;> decide) (by decide) (by decide)]
  refine hlast _ ?_
  unfold scrL
  simp only [List.filter_cons, List.filter_nil, show (1 : Int) + 1 = 2 from rfl, show (2 : Int) + 1 = 3 from rfl, show (3 : Int) + 1 = 4 from rfl]
  generalize hasS (vals (L s)) 1 = b1
  generalize hasS (vals (L s)) 2 = b2
  generalize hasS (vals (L s)) 3 = b3
  generalize hasS (vals (L s)) 4 = b4
  cases b1 <;> cases b2 <;> cases b3 <;> cases b4 <;> rfl
theorem SpoofScripts : ∀ (a0 : ByteArray) (l1 : List (ByteArray)), Open.G9 a0 → Open.G30 l1 → ∃ k, dactyllaw44_SpoofScripts.f k a0 l1 = some true := by
  intro s l _ _
  obtain ⟨K, hK⟩ : ∃ K, K = 6000 := ⟨_, rfl⟩
  refine ⟨K + 6, ?_⟩
  have e : dactyllaw44_SpoofScripts.j0 (K + 6) s l true = some true := by
    simp only [dactyllaw44_SpoofScripts.j0, if_true]
    rw [awake44 _ (by omega)]
    rfl
  unfold dactyllaw44_SpoofScripts.f
  by_cases c1 : s.size > 200
  · rw [if_pos (by omega), e]
  · rw [if_neg (by omega)]
    by_cases c2 : l.length > 12
    · rw [decide_eq_true (by omega), e]
    · rw [decide_eq_false (by omega)]
      simp only [dactyllaw44_SpoofScripts.j0, Bool.false_eq_true, if_false]
      exact scr_l0 K (by omega) s l (by omega) (by omega)
end Go.Proofs.Ytpkmoonfnbcphaa.Pure
