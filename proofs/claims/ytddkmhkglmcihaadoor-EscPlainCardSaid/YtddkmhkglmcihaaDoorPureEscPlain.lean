/- The plain law of EscPlain: what the walk computes is true for all signs. -/
import Derived.Test.YtddkmhkglmcihaaDoorPAllx8
import Derived.Test.YtddkmhkglmcihaaDoorQEsc3
import Derived.Test.YtddkmhkglmcihaaDoorQEsc4
import Derived.Test.YtddkmhkglmcihaaDoorOpen
set_option linter.unusedVariables false
set_option linter.unusedSimpArgs false
namespace Go.Proofs.YtddkmhkglmcihaaDoor.Pure
open Go.RowKit Go.Proofs.YtddkmhkglmcihaaDoor.PAll Go.Proofs.YtddkmhkglmcihaaDoorW.PrintWords Go.Proofs.YtddkmhkglmcihaaDoorW.PrintLast Go.Proofs.YtddkmhkglmcihaaDoorW.PrintMore Go.Proofs.YtddkmhkglmcihaaDoor.Q
theorem vals_l (l : List Sg) (hl : l.length ≤ 100000) (k : Nat) (hk : l.length < k) : dactylref04_Values.f k l = some (l.map (·.f0)) := by
  have key : ∀ (n k i : Nat) (acc : List Int), l.length - i ≤ n → n < k → i ≤ l.length → acc.length ≤ i → dactylref04_Values.l0 k l acc (i : Int) = some (acc ++ (l.drop i).map (·.f0)) := by
    intro n
    induction n with
    | zero =>
      intro k i acc h0 hk hi hs
      obtain ⟨k, rfl⟩ : ∃ m, k = m + 1 := ⟨k - 1, by omega⟩
      simp only [dactylref04_Values.l0]
      rw [if_neg (by omega), List.drop_eq_nil_of_le (by omega)]
      simp
    | succ n ih =>
      intro k i acc h0 hk hi hs
      obtain ⟨k, rfl⟩ : ∃ m, k = m + 1 := ⟨k - 1, by omega⟩
      simp only [dactylref04_Values.l0]
      by_cases c : i < l.length
      · rw [if_pos (by omega), if_pos (by omega), if_pos (by omega), rdS_at l i c, w64_succ i (by omega), ih k (i + 1) _ (by omega) (by omega) (by omega) (by rw [List.length_append, List.length_singleton]; omega), List.drop_eq_getElem_cons c, List.map_cons, List.append_assoc]
        rfl
      · rw [if_neg (by omega), List.drop_eq_nil_of_le (by omega)]
        simp
  have := key l.length k 0 [] (by omega) hk (by omega) (by decide)
  simpa [dactylref04_Values.f] using this
theorem rd_int (l : List Int) (i : Nat) (h : i < l.length) : rd l (i : Int) = l[i] := by
  unfold rd
  rw [Int.toNat_natCast, List.getD_eq_getElem?_getD, List.getElem?_eq_getElem h]
  rfl
theorem ints_eq (a b : List Int) (ha : a.length ≤ 100000) (k : Nat) (hk : a.length < k) : dactylref01_Ints.f k a b = some (decide (a = b)) := by
  unfold dactylref01_Ints.f
  by_cases hl : a.length = b.length
  · rw [if_pos (by omega)]
    have key : ∀ (n k i : Nat), a.length - i ≤ n → n < k → i ≤ a.length → dactylref01_Ints.l0 k a b (i : Int) = some (decide (a.drop i = b.drop i)) := by
      intro n
      induction n with
      | zero =>
        intro k i h0 hk hi
        obtain ⟨k, rfl⟩ : ∃ m, k = m + 1 := ⟨k - 1, by omega⟩
        simp only [dactylref01_Ints.l0]
        rw [if_neg (by omega), List.drop_eq_nil_of_le (by omega), List.drop_eq_nil_of_le (by omega)]
        rfl
      | succ n ih =>
        intro k i h0 hk hi
        obtain ⟨k, rfl⟩ : ∃ m, k = m + 1 := ⟨k - 1, by omega⟩
        simp only [dactylref01_Ints.l0]
        by_cases c : i < a.length
        · have cb : i < b.length := by omega
          have ea : a.drop i = a[i] :: a.drop (i + 1) := List.drop_eq_getElem_cons c
          have eb : b.drop i = b[i] :: b.drop (i + 1) := List.drop_eq_getElem_cons cb
          rw [if_pos (by omega), if_pos (by omega), if_pos (by omega), rd_int a i c, rd_int b i cb, w64_succ i (by omega), ih k (i + 1) (by omega) (by omega) (by omega), ea, eb]
          clear ea eb
          generalize a[i] = x
          generalize b[i] = y
          generalize a.drop (i + 1) = p
          generalize b.drop (i + 1) = q
          by_cases e : x = y
          · subst e
            simp
          · rw [if_neg e]
            simp [e]
        · rw [if_neg (by omega), List.drop_eq_nil_of_le (by omega), List.drop_eq_nil_of_le (by omega)]
          rfl
    have := key a.length k 0 (by omega) hk (by omega)
    simpa using this
  · rw [if_neg (by omega), decide_eq_false (fun h => hl (by rw [h]))]
theorem plain_l0 (a b : List Sg) (ha : a.all okS = true) (hb : b.all okS = true) (la : a.length ≤ 60) (lb : b.length ≤ 60) (s t : ByteArray) (hs : L s = lineS a) (ht : L t = lineS b) : ∀ (n k i : Nat), s.size - i ≤ n → n + 200 ≤ k → i ≤ s.size → dactyllaw22_EscPlain.l0 k a b s 0 t 0 (i : Int) = some true := by
  have h8 := lineS_len a
  have hsz : s.size = (lineS a).length := by rw [← L_len, hs]
  have fin : ∀ k i : Nat, 200 ≤ k → s.size ≤ i → dactyllaw22_EscPlain.l0 k a b s 0 t 0 (i : Int) = some true := by
    intro k i hk hi
    obtain ⟨k, rfl⟩ : ∃ m, k = m + 1 := ⟨k - 1, by omega⟩
    simp only [dactyllaw22_EscPlain.l0]
    rw [if_neg (by omega), awake22 k (by omega), vals_l a (by omega) k (by omega), vals_l b (by omega) k (by omega)]
    simp only [Option.bind_some, if_true]
    rw [ints_eq _ _ (by rw [List.length_map]; omega) k (by rw [List.length_map]; omega)]
    simp only [Option.bind_some]
    congr 1
    rw [tl, tl, beq_iff_eq]
    by_cases e : L s = L t
    · have := L_inj e
      subst this
      have u1 := unline_line a ha s hs (by omega) 60 (by omega) 100 (by omega)
      have u2 := unline_line b hb s ht (by omega) 60 (by omega) 100 (by omega)
      have e2 : withS a 3 = withS b 3 := Option.some.inj (u1.symm.trans u2)
      have e3 : a.map (·.f0) = b.map (·.f0) := by
        have := congrArg (List.map fun x : Sg => x.f0) e2
        simpa [withS, Function.comp_def] using this
      rw [decide_eq_true e3, beq_iff_eq]
    · rw [decide_eq_false (fun h => e (by
        rw [hs, ht]
        unfold lineS
        have : ∀ l : List Sg, (l.map fun x => letS x.f0) = (l.map (·.f0)).map letS := fun l => by rw [List.map_map]; rfl
        rw [this, this, h])), beq_eq_false_iff_ne]
      exact e
  intro n
  induction n with
  | zero => intro k i h0 hk hi; exact fin k i (by omega) (by omega)
  | succ n ih =>
    intro k i h0 hk hi
    by_cases c : i < s.size
    · obtain ⟨k, rfl⟩ : ∃ m, k = m + 1 := ⟨k - 1, by omega⟩
      have hg : 32 ≤ bt s (i : Int) ∧ bt s (i : Int) ≤ 126 := by
        rw [bt_g, Int.toNat_natCast]
        unfold g
        rw [List.getD_eq_getElem?_getD, List.getElem?_eq_getElem (show i < (L s).length from c)]
        have := lineS_bytes a ((L s)[i]'c) (hs ▸ List.getElem_mem _)
        simp only [Option.getD_some]
        omega
      simp only [dactyllaw22_EscPlain.l0]
      rw [if_pos (by omega), if_pos (by omega), if_neg (by omega), if_neg (by omega), w64_succ i (by omega)]
      exact ih k (i + 1) (by omega) (by omega) (by omega)
    · exact fin k i (by omega) (by omega)
theorem EscPlain : ∀ (l0 : List (S41)) (l1 : List (S41)), Open.G30 l0 → Open.G30 l1 → ∃ k, dactyllaw22_EscPlain.f k l0 l1 = some true := by
  intro a b ha hb
  have hal : a.length ≤ 9223372036854775807 := ha.1
  have hbl : b.length ≤ 9223372036854775807 := hb.1
  obtain ⟨K, hK⟩ : ∃ K, K = a.length + b.length + 2000 := ⟨_, rfl⟩
  refine ⟨K, ?_⟩
  have aw : dactyllaw22_EscPlain.j0 K a b true = some true := by
    obtain ⟨m, rfl⟩ : ∃ m, K = m + 1 := ⟨K - 1, by omega⟩
    simp only [dactyllaw22_EscPlain.j0, if_true]
    rw [awake22 _ (by omega)]
    rfl
  unfold dactyllaw22_EscPlain.f
  by_cases c1 : (a.length : Int) > 60
  · rw [if_pos c1, aw]
  · rw [if_neg c1]
    by_cases c2 : (b.length : Int) > 60
    · rw [if_pos c2, aw]
    · rw [if_neg c2, all_sign a _ (by omega) (by omega), all_sign b _ (by omega) (by omega)]
      simp only [Option.bind_some]
      by_cases c3 : a.all okS = true
      · rw [if_pos c3]
        by_cases c4 : b.all okS = true
        · rw [c4]
          obtain ⟨m, rfl⟩ : ∃ m, K = m + 1 := ⟨K - 1, by omega⟩
          obtain ⟨s, h1, h2⟩ := line_prog a (by omega) m (by omega) c3
          obtain ⟨t, h3, h4⟩ := line_prog b (by omega) m (by omega) c4
          simp only [dactyllaw22_EscPlain.j0, Bool.not_true, Bool.false_eq_true, if_false]
          rw [h1, h3]
          simp only [Option.bind_some]
          have h8 := lineS_len a
          have hsz : s.size = (lineS a).length := by rw [← L_len, h2]
          exact plain_l0 a b c3 c4 (by omega) (by omega) s t h2 h4 s.size _ 0 (by omega) (by omega) (by omega)
        · have : b.all okS = false := by simpa using c4
          rw [this]
          exact aw
      · rw [if_neg c3, aw]
end Go.Proofs.YtddkmhkglmcihaaDoor.Pure
