/- Plain facts: mixed scripts, which text of a list is alike, what must come at any rate (spoof). -/
import Derived.Test.YtpkmoonfnbcphaaPAllx5
import Derived.Test.YtpkmoonfnbcphaaPAllx4
import Derived.Test.YtpkmoonfnbcphaaPAllx10
import Derived.Test.YtpkmoonfnbcphaaPAllx11
import Derived.Test.YtpkmoonfnbcphaaQSp5
set_option linter.unusedVariables false
set_option linter.unusedSimpArgs false
namespace Go.Proofs.Ytpkmoonfnbcphaa.Q
open Go.RowKit Go.Proofs.Ytpkmoonfnbcphaa.PAll Go.Proofs.YtpkmoonfnbcphaaW.PrintWords Go.Proofs.YtpkmoonfnbcphaaW.PrintLast Go.Proofs.YtpkmoonfnbcphaaW.PrintMore
def mixS (vs : List Int) : Bool := (hasS vs 1 && hasS vs 2) || (hasS vs 1 && hasS vs 3) || (hasS vs 2 && hasS vs 3)
def cntS (l : List Int) : Nat := (l.filter fun x => decide (x ≤ 3)).length
theorem mixed_l0 (l : List Int) (hl : l.length ≤ 1000) : ∀ (n k i c : Nat), l.length - i ≤ n → n < k → i ≤ l.length → c ≤ i → spoof_Mixed.l0 k (c : Int) l (l.length : Int) (i : Int) = some (decide ((c : Int) + cntS (l.drop i) > 1)) := by
  intro n
  induction n with
  | zero =>
    intro k i c h0 hk hi hc
    obtain ⟨k, rfl⟩ : ∃ m, k = m + 1 := ⟨k - 1, by omega⟩
    simp only [spoof_Mixed.l0]
    rw [if_neg (by omega), List.drop_eq_nil_of_le (by omega)]
    rfl
  | succ n ih =>
    intro k i c h0 hk hi hc
    by_cases cl : i < l.length
    · obtain ⟨k, rfl⟩ : ∃ m, k = m + 1 := ⟨k - 1, by omega⟩
      simp only [spoof_Mixed.l0]
      rw [if_pos (by omega), if_pos (by omega), if_pos (by omega), rd_int l i cl, w64_succ i (by omega), w64_succ c (by omega), List.drop_eq_getElem_cons cl]
      by_cases d : l[i] ≤ 3
      · have e : cntS (l[i] :: l.drop (i + 1)) = 1 + cntS (l.drop (i + 1)) := by
          unfold cntS
          rw [List.filter_cons, if_pos (decide_eq_true d), List.length_cons, Nat.add_comm]
        rw [if_pos d, ih k (i + 1) (c + 1) (by omega) (by omega) (by omega) (by omega), e]
        generalize cntS (l.drop (i + 1)) = z
        congr 1
        exact decide_eq_decide.mpr (by omega)
      · have e : cntS (l[i] :: l.drop (i + 1)) = cntS (l.drop (i + 1)) := by
          unfold cntS
          rw [List.filter_cons, if_neg (by rw [decide_eq_true_eq]; exact d)]
        rw [if_neg d, ih k (i + 1) c (by omega) (by omega) (by omega) (by omega), e]
    · exact ih k i c (by omega) (by omega) hi hc
theorem scrL_len (vs : List Int) : (scrL vs).length ≤ 4 := List.length_filter_le _ _
theorem mixed_prog (k : Nat) (s : ByteArray) (hs : s.size ≤ 100000) (hk : s.size + 50 ≤ k) : spoof_Mixed.f k s = some (mixS (vals (L s))) := by
  unfold spoof_Mixed.f
  rw [scripts_prog k s hs hk]
  simp only [Option.bind_some]
  generalize vals (L s) = vs
  have h4 := scrL_len vs
  have := mixed_l0 (scrL vs) (by omega) 4 k 0 0 (by omega) (by omega) (by omega) (by omega)
  rw [List.drop_zero] at this
  refine this.trans ?_
  unfold scrL mixS cntS
  clear this h4
  simp only [List.filter_cons, List.filter_nil]
  generalize hasS vs 1 = b1
  generalize hasS vs 2 = b2
  generalize hasS vs 3 = b3
  generalize hasS vs 4 = b4
  cases b1 <;> cases b2 <;> cases b3 <;> cases b4 <;> rfl
def findP (s : ByteArray) (t : ByteArray) : Bool := (t.toList != s.toList) && aliS (L s) (L t)
theorem find_prog (k : Nat) (hk : 30 ≤ k) (s : ByteArray) (l : List ByteArray) (hs : s.size ≤ 100000) (hl : l.length ≤ 100000) (ht : ∀ t ∈ l, t.size ≤ 100000) : spoof_Find.f k s l = some (idx_string.g (findP s) l 0) := by
  unfold spoof_Find.f
  rw [if_pos (List.all_eq_true.mpr (fun t h => by rw [alike_prog k hk s t hs (ht t h)]; rfl)), if_pos (by omega)]
  congr 1
  exact spoof_Find.g_congr _ _ _ (fun t h => by
    unfold spoof_Find.p findP
    rw [alike_prog k hk s t hs (ht t h)]
    rfl) 0
theorem awS : (spoof_Strip.f 100 (⟨#[97, 226, 128, 174, 98, 27]⟩ : ByteArray)) = some ⟨#[97, 98]⟩ := by decide +kernel
theorem awT : (spoof_Tell.f 100 (⟨#[97, 27]⟩ : ByteArray)) = some ⟨#[97, 94, 91]⟩ := by decide +kernel
theorem awF : (spoof_Fold.f 100 (⟨#[112, 208, 176, 121]⟩ : ByteArray)) = some ⟨#[112, 97, 121]⟩ := by decide +kernel
theorem awA : (spoof_Alike.f 100 (⟨#[112, 208, 176, 121]⟩ : ByteArray) (⟨#[112, 97, 121]⟩ : ByteArray)) = some true := by decide +kernel
theorem awI : (spoof_Find.f 100 (⟨#[112, 97, 121]⟩ : ByteArray) (([(⟨#[112, 97, 121]⟩ : ByteArray), (⟨#[112, 208, 176, 121]⟩ : ByteArray)] : List ByteArray))) = some 1 := by decide +kernel
theorem awV : scrL (vals (L (⟨#[112, 208, 176, 121]⟩ : ByteArray))) = [1, 3] ∧ mixS (vals (L (⟨#[112, 208, 176, 121]⟩ : ByteArray))) = true ∧ mixS (vals (L (⟨#[112, 97, 121]⟩ : ByteArray))) = false := by decide +kernel
theorem awake_100 : dactyllaw44_awake.f 100 = some true := by
  have h1 := scripts_prog 100 (⟨#[112, 208, 176, 121]⟩ : ByteArray) (by decide) (by decide)
  have h2 := mixed_prog 100 (⟨#[112, 208, 176, 121]⟩ : ByteArray) (by decide) (by decide)
  have h3 := mixed_prog 100 (⟨#[112, 97, 121]⟩ : ByteArray) (by decide) (by decide)
  rw [awV.1] at h1
  rw [awV.2.1] at h2
  rw [awV.2.2] at h3
  unfold dactyllaw44_awake.f
  rw [h1, awS, awT, awF, awA, h2, h3, awI]
  simp only [Option.bind_some, tl]
  rfl
theorem awake44 (k : Nat) (hk : 100 ≤ k) : dactyllaw44_awake.f k = some true := at_rounds dactyllaw44_awake.mono hk awake_100
theorem has_ref (k : Nat) (s : ByteArray) (c : Int) (hs : s.size ≤ 1000) (hk : 9 * s.size + 300 ≤ k) : dactylref44_Has.f k s c = some (hasS (vals (L s)) c) := by
  have hv := vals_len (L s)
  rw [L_len] at hv
  unfold dactylref44_Has.f
  rw [ref_dec k s (by omega) (by omega)]
  simp only [Option.bind_some]
  generalize vals (L s) = vs at *
  have key : ∀ (n k i : Nat), vs.length - i ≤ n → 8 * n + 200 ≤ k → i ≤ vs.length → dactylref44_Has.l0 k c vs (i : Int) = some (hasS (vs.drop i) c) := by
    intro n
    induction n with
    | zero =>
      intro k i h0 hk hi
      obtain ⟨k, rfl⟩ : ∃ m, k = m + 1 := ⟨k - 1, by omega⟩
      simp only [dactylref44_Has.l0]
      rw [if_neg (by omega), List.drop_eq_nil_of_le (by omega)]
      rfl
    | succ n ih =>
      intro k i h0 hk hi
      by_cases cl : i < vs.length
      · obtain ⟨k, rfl⟩ : ∃ m, k = m + 7 := ⟨k - 7, by omega⟩
        have hn := ih k (i + 1) (by omega) (by omega) (by omega)
        have hd : hasS (vs.drop i) c = (scrS vs[i] == c || hasS (vs.drop (i + 1)) c) := by
          rw [List.drop_eq_getElem_cons cl]
          unfold hasS
          rw [List.any_cons]
        rw [hd]
        clear hd
        have step : ∀ y : Int, (if y = c then some true else some (hasS (vs.drop (i + 1)) c)) = some (y == c || hasS (vs.drop (i + 1)) c) := by
          intro y
          by_cases e : y = c
          · rw [if_pos e, beq_iff_eq.mpr e]; rfl
          · rw [if_neg e, beq_eq_false_iff_ne.mpr e]; rfl
        have j6 : ∀ (y : Int) (b : Bool), dactylref44_Has.j6 (k + 1) c vs (i : Int) y b = some ((if b = true then 1 else y) == c || hasS (vs.drop (i + 1)) c) := by
          intro y b
          simp only [dactylref44_Has.j6]
          rw [w64_succ i (by omega), hn, step y]
          by_cases e : b = true
          · rw [if_pos e, if_pos e]
            exact step 1
          · rw [if_neg e, if_neg e]
        have j5 : ∀ (y : Int), dactylref44_Has.j5 (k + 2) c vs (i : Int) vs[i] y = some ((if (65 ≤ vs[i] ∧ vs[i] ≤ 90) ∨ (97 ≤ vs[i] ∧ vs[i] ≤ 122) ∨ (192 ≤ vs[i] ∧ vs[i] ≤ 591) then 1 else y) == c || hasS (vs.drop (i + 1)) c) := by
          intro y
          simp only [dactylref44_Has.j5, j6, decide_eq_true_eq, Bool.false_eq_true, if_false, if_true]
          generalize vs[i] = v
          by_cases hc : (65 ≤ v ∧ v ≤ 90) ∨ (97 ≤ v ∧ v ≤ 122) ∨ (192 ≤ v ∧ v ≤ 591)
          · rw [if_pos hc]
            repeat' split
            all_goals first | rfl | (exfalso; omega)
          · rw [if_neg hc]
            repeat' split
            all_goals first | rfl | (exfalso; omega)
        have j4 : ∀ (y : Int) (b : Bool), dactylref44_Has.j4 (k + 3) c vs (i : Int) vs[i] y b = dactylref44_Has.j5 (k + 2) c vs (i : Int) vs[i] (if b = true then 2 else y) := by
          intro y b
          cases b <;> rfl
        have j3 : ∀ (y : Int), dactylref44_Has.j3 (k + 4) c vs (i : Int) vs[i] y = dactylref44_Has.j5 (k + 2) c vs (i : Int) vs[i] (if 880 ≤ vs[i] ∧ vs[i] ≤ 1023 then 2 else y) := by
          intro y
          simp only [dactylref44_Has.j3, j4, decide_eq_true_eq, Bool.false_eq_true, if_false]
          by_cases q : 880 ≤ vs[i] ∧ vs[i] ≤ 1023
          · rw [if_pos q.1, if_pos q.2, if_pos q]
          · rw [if_neg q]
            by_cases d : vs[i] ≥ 880
            · rw [if_pos d, if_neg (fun h => q ⟨d, h⟩)]
            · rw [if_neg d]
        have j2 : ∀ (y : Int) (b : Bool), dactylref44_Has.j2 (k + 5) c vs (i : Int) vs[i] y b = dactylref44_Has.j3 (k + 4) c vs (i : Int) vs[i] (if b = true then 3 else y) := by
          intro y b
          cases b <;> rfl
        have j1 : ∀ (y : Int), dactylref44_Has.j1 (k + 6) c vs (i : Int) vs[i] y = dactylref44_Has.j3 (k + 4) c vs (i : Int) vs[i] (if 1024 ≤ vs[i] ∧ vs[i] ≤ 1327 then 3 else y) := by
          intro y
          simp only [dactylref44_Has.j1, j2, decide_eq_true_eq, Bool.false_eq_true, if_false]
          by_cases q : 1024 ≤ vs[i] ∧ vs[i] ≤ 1327
          · rw [if_pos q.1, if_pos q.2, if_pos q]
          · rw [if_neg q]
            by_cases d : vs[i] ≥ 1024
            · rw [if_pos d, if_neg (fun h => q ⟨d, h⟩)]
            · rw [if_neg d]
        simp only [dactylref44_Has.l0]
        rw [if_pos (by omega), if_pos (by omega), rd_int vs i cl, ref_of (k + 6) _ (by omega)]
        simp only [Option.bind_some]
        unfold scrS
        by_cases e : ofS vs[i] = 2
        · rw [if_pos e, if_pos e, j1, j3, j5]
        · rw [if_neg e, if_neg e, j1, j3, j5]
      · exact ih k i (by omega) (by omega) hi
  exact key vs.length k 0 (by omega) (by omega) (Nat.zero_le _)
theorem ints_eq (a b : List Int) (ha : a.length ≤ 100000) (k : Nat) (hk : a.length < k) : dactylref01_Ints.f k a b = some (decide (a = b)) := by
  unfold dactylref01_Ints.f
  by_cases hl : a.length = b.length
  · rw [if_pos (by omega)]
    have key : ∀ (n k i : Nat), a.length - i ≤ n → n < k → i ≤ a.length → dactylref01_Ints.l0 k a b (i : Int) = some (decide (a.drop i = b.drop i)) := by
      intro n
      induction n with
      | zero =>
        intro k i h0 hk hi
        obtain ⟨k, rfl⟩ : ∃ m, k = m + 1 := ⟨k - 1, by omega⟩
        simp only [dactylref01_Ints.l0]
        rw [if_neg (by omega), List.drop_eq_nil_of_le (by omega), List.drop_eq_nil_of_le (by omega)]
        rfl
      | succ n ih =>
        intro k i h0 hk hi
        obtain ⟨k, rfl⟩ : ∃ m, k = m + 1 := ⟨k - 1, by omega⟩
        simp only [dactylref01_Ints.l0]
        by_cases c : i < a.length
        · have cb : i < b.length := by omega
          have ea : a.drop i = a[i] :: a.drop (i + 1) := List.drop_eq_getElem_cons c
          have eb : b.drop i = b[i] :: b.drop (i + 1) := List.drop_eq_getElem_cons cb
          rw [if_pos (by omega), if_pos (by omega), if_pos (by omega), rd_int a i c, rd_int b i cb, w64_succ i (by omega), ih k (i + 1) (by omega) (by omega) (by omega), ea, eb]
          clear ea eb
          generalize a[i] = x
          generalize b[i] = y
          generalize a.drop (i + 1) = p
          generalize b.drop (i + 1) = q
          by_cases e : x = y
          · subst e
            simp
          · rw [if_neg e]
            congr 1
            exact (decide_eq_false (fun h => e (List.cons.inj h).1)).symm
        · rw [if_neg (by omega), List.drop_eq_nil_of_le (by omega), List.drop_eq_nil_of_le (by omega)]
          rfl
    have := key a.length k 0 (by omega) hk (by omega)
    simpa using this
  · rw [if_neg (by omega)]
    congr 1
    exact (decide_eq_false (fun h => hl (by rw [h]))).symm
end Go.Proofs.Ytpkmoonfnbcphaa.Q
