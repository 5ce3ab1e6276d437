/- Plain facts: what is kept of a text, value by value, as the program and as the reference tell it. -/
import Derived.Test.YtpkmoonfnbcphaaPAllx1
import Derived.Test.YtpkmoonfnbcphaaPAllx2
import Derived.Test.YtpkmoonfnbcphaaPAllx3
import Derived.Test.YtpkmoonfnbcphaaPAllx7
import Derived.Test.YtpkmoonfnbcphaaPAllx8
import Derived.Test.YtpkmoonfnbcphaaQSp2
set_option linter.unusedVariables false
set_option linter.unusedSimpArgs false
namespace Go.Proofs.Ytpkmoonfnbcphaa.Q
open Go.RowKit Go.Proofs.Ytpkmoonfnbcphaa.PAll Go.Proofs.YtpkmoonfnbcphaaW.PrintWords Go.Proofs.YtpkmoonfnbcphaaW.PrintLast Go.Proofs.YtpkmoonfnbcphaaW.PrintMore
theorem one_right (l : List UInt8) (h : l ≠ []) : rightB (one l).1 = true := by
  rw [right_iff]
  unfold one
  have r0 := g_range l 0
  have r1 := g_range l 1
  have r2 := g_range l 2
  have r3 := g_range l 3
  generalize g l 0 = b0 at *
  generalize g l 1 = b1 at *
  generalize g l 2 = b2 at *
  generalize g l 3 = b3 at *
  simp only
  by_cases c0 : b0 < 128
  · rw [oneI_1 _ _ _ _ _ c0]
    simp only
    omega
  by_cases c2 : 194 ≤ b0 ∧ b0 ≤ 223 ∧ 1 < (l.length : Int) ∧ mayP b0 b1 1
  · rw [oneI_2 _ _ _ _ _ c2]
    obtain ⟨a1, a2, _, a3, a4, _⟩ := c2
    simp only
    omega
  by_cases c3 : 224 ≤ b0 ∧ b0 ≤ 239 ∧ 2 < (l.length : Int) ∧ mayP b0 b1 1 ∧ mayP b0 b2 2
  · rw [oneI_3 _ _ _ _ _ c3]
    obtain ⟨a1, a2, _, ⟨a3, a4, a5⟩, a6, a7, _⟩ := c3
    simp only
    rcases a5 with a5 | ⟨p1, p2, p3, p4⟩
    · omega
    · by_cases e : b0 = 224
      · have := fun h => p1 ⟨e, h⟩; omega
      · by_cases e : b0 = 237
        · have := fun h => p2 ⟨e, h⟩; omega
        · omega
  by_cases c4 : 240 ≤ b0 ∧ b0 ≤ 244 ∧ 3 < (l.length : Int) ∧ mayP b0 b1 1 ∧ mayP b0 b2 2 ∧ mayP b0 b3 3
  · rw [oneI_4 _ _ _ _ _ c4]
    obtain ⟨a1, a2, _, ⟨a3, a4, a5⟩, ⟨a6, a7, _⟩, a8, a9, _⟩ := c4
    simp only
    rcases a5 with a5 | ⟨p1, p2, p3, p4⟩
    · omega
    · by_cases e : b0 = 240
      · have := fun h => p3 ⟨e, h⟩; omega
      · by_cases e : b0 = 244
        · have := fun h => p4 ⟨e, h⟩; omega
        · omega
  rw [oneI_0 _ _ _ _ _ c0 c2 c3 c4]
  simp only
  omega
theorem vals_right (l : List UInt8) : ∀ v ∈ vals l, rightB v = true := by
  have key : ∀ n (l : List UInt8), ∀ v ∈ valsF n l, rightB v = true := by
    intro n
    induction n with
    | zero => intro l v hv; cases hv
    | succ n ih =>
      intro l v hv
      unfold valsF at hv
      split at hv
      · cases hv
      · rename_i hne
        rcases List.mem_cons.mp hv with e | h
        · rw [e]; exact one_right l hne
        · exact ih _ v h
  exact key _ l
/-- What a function tells of each value, one behind the other. -/
def catG (G : Int → List UInt8) (l : List Int) : List UInt8 := (l.map G).flatten
theorem catG_nil (G : Int → List UInt8) : catG G [] = [] := rfl
theorem catG_cons (G : Int → List UInt8) (v : Int) (l : List Int) : catG G (v :: l) = G v ++ catG G l := by simp [catG]
theorem catG_app (G : Int → List UInt8) (a b : List Int) : catG G (a ++ b) = catG G a ++ catG G b := by simp [catG]
theorem catG_len (G : Int → List UInt8) (hG : ∀ v, (G v).length ≤ 16) (l : List Int) : (catG G l).length ≤ 16 * l.length := by
  induction l with
  | nil => exact Nat.le_refl _
  | cons x l ih => rw [catG_cons, List.length_append, List.length_cons]; have := hG x; omega
theorem utf_one_eq (s : ByteArray) (h : 0 < s.size) : utf_One.f s = some ((one (L s)).1, ((one (L s)).2 : Int)) := by
  obtain ⟨h1, h2⟩ := decode_one s 0 h
  rw [List.drop_zero] at h1 h2
  unfold utf_One.f utf_One.v
  rw [if_neg (by omega), h2, ← h1]
  unfold utf_Decode.v
  have : s.extract 0 s.size = s := L_inj (by rw [L_ext, List.drop_zero, Nat.sub_zero]; exact List.take_length)
  rw [this]
theorem kept_eq (g : Int → Option ByteArray) (G : Int → List UInt8) (hG : ∀ v, (G v).length ≤ 16) (hg : ∀ v, rightB v = true → ∃ t, g v = some t ∧ L t = G v) (s : ByteArray) (hs : s.size ≤ 1000000000) : ∃ r, spoof_kept.f g s = some r ∧ L r = catG G (vals (L s)) := by
  have key : ∀ (n p : Nat) (acc : ByteArray), s.size - p < n → acc.size ≤ 16 * p → p ≤ s.size → ∃ r, spoof_kept.l g s n p (p : Int) acc = some r ∧ L r = L acc ++ catG G (vals ((L s).drop p)) := by
    intro n
    induction n with
    | zero => intro p acc h; omega
    | succ n ih =>
      intro p acc hn ha hp
      have hl : (L s).length = s.size := rfl
      unfold spoof_kept.l
      by_cases h : p < s.size
      · have hne : (L s).drop p ≠ [] := by
          intro e
          have := congrArg List.length e
          rw [List.length_drop] at this
          simp at this
          omega
        have hrt := one_right _ hne
        have h2 := (decode_one s p h).2
        have w := one_width _ hne
        rw [List.length_drop] at w
        have hx : L (s.extract p s.size) = (L s).drop p := by rw [L_ext]; exact List.take_of_length_le (by rw [List.length_drop]; omega)
        have hxs : 0 < (s.extract p s.size).size := by rw [← L_len, hx, List.length_drop]; omega
        have ho := utf_one_eq (s.extract p s.size) hxs
        rw [hx] at ho
        have hvc := vals_cons _ hne
        clear hne hx hxs
        revert hrt h2 w ho hvc
        generalize one ((L s).drop p) = vq
        obtain ⟨v, q⟩ := vq
        simp only
        intro hrt h2 w ho hvc
        have H2 := Aside0.mk h2
        clear h2
        obtain ⟨t, t1, t2⟩ := hg _ hrt
        have ht : t.size ≤ 16 := by rw [← L_len, t2]; exact hG _
        have hw : wrap64 ((p : Int) + (q : Int)) = ((p + q : Nat) : Int) := by unfold wrap64; omega
        obtain ⟨r, r1, r2⟩ := ih (p + q) (acc ++ t) (by omega) (by rw [ByteArray.size_append]; omega) (by omega)
        refine ⟨r, ?_, ?_⟩
        · rw [if_pos h, if_pos (by omega), ho]
          simp only [Option.bind_some]
          rw [t1]
          simp only [Option.bind_some]
          rw [if_pos (by omega), H2.out, hw, r1]
        · rw [r2, L_app, t2, hvc, catG_cons, List.drop_drop, List.append_assoc]
      · rw [if_neg h, List.drop_eq_nil_of_le (by omega)]
        exact ⟨acc, rfl, by rw [vals_nil, catG_nil, List.append_nil]⟩
  obtain ⟨r, h1, h2⟩ := key (s.size + 1) 0 ⟨#[]⟩ (by omega) (by exact Nat.zero_le _) (Nat.zero_le _)
  refine ⟨r, ?_, ?_⟩
  · unfold spoof_kept.f
    exact h1
  · rw [h2, List.drop_zero]
    rfl
/-- What is kept of a value that is not dangerous. -/
def stripS (v : Int) : List UInt8 := if ofS v ≤ 3 then encS v else []
def foldS (v : Int) : List UInt8 := encS (skelS v)
theorem looks_small : ∀ x ∈ looksL, 32 ≤ x.f1 ∧ x.f1 < 127 ∧ 127 < x.f0 ∧ x.f0 < 65536 := by decide +kernel
theorem skel_cases (v : Int) : skelS v = v ∨ (32 ≤ skelS v ∧ skelS v < 127 ∧ 127 < v ∧ v < 65536) := by
  have key : ∀ l : List S60, (∀ x ∈ l, 32 ≤ x.f1 ∧ x.f1 < 127 ∧ 127 < x.f0 ∧ x.f0 < 65536) → lik v l = none ∨ ∃ y, lik v l = some y ∧ 32 ≤ y ∧ y < 127 ∧ 127 < v ∧ v < 65536 := by
    intro l
    induction l with
    | nil => intro _; exact .inl rfl
    | cons x l ih =>
      intro hx
      by_cases c : x.f0 = v
      · have := hx x List.mem_cons_self
        right
        exact ⟨x.f1, by rw [lik, if_pos c], this.1, this.2.1, by omega, by omega⟩
      · rw [lik, if_neg c]
        exact ih (fun y hy => hx y (List.mem_cons_of_mem _ hy))
  unfold skelS
  rcases key looksL looks_small with h | ⟨y, h, h2⟩
  · left; rw [h]; rfl
  · right; rw [h]; exact h2
theorem skel_right (v : Int) (hv : rightB v = true) : rightB (skelS v) = true := by
  rcases skel_cases v with h | h
  · rw [h]; exact hv
  · rw [right_iff]; omega
theorem skel_idem (v : Int) : skelS (skelS v) = skelS v := by
  rcases skel_cases v with h | h
  · rw [h, h]
  · rcases skel_cases (skelS v) with h2 | h2
    · exact h2
    · omega
theorem stripS_len (v : Int) : (stripS v).length ≤ 16 := by
  unfold stripS
  have := (encS_len v).2
  split
  · omega
  · simp
theorem foldS_len (v : Int) : (foldS v).length ≤ 16 := by
  unfold foldS
  have := (encS_len (skelS v)).2
  omega
theorem strip_prog (k : Nat) (hk : 30 ≤ k) (s : ByteArray) (hs : s.size ≤ 1000000000) : ∃ r, spoof_Strip.f k s = some r ∧ L r = catG stripS (vals (L s)) := by
  unfold spoof_Strip.f
  refine kept_eq _ stripS stripS_len (fun v hv => ?_) s hs
  unfold spoof_Strip_1.f class_Danger.f stripS
  rw [prog_of k v (by omega), prog_enc k v (by omega) hv]
  simp only [Option.bind_some, decide_eq_true_eq]
  by_cases c : ofS v > 3
  · rw [if_pos c, if_neg (by omega)]
    exact ⟨_, rfl, rfl⟩
  · rw [if_neg c, if_pos (by omega)]
    exact ⟨_, rfl, rfl⟩
theorem fold_prog (k : Nat) (hk : 30 ≤ k) (s : ByteArray) (hs : s.size ≤ 1000000000) : ∃ r, spoof_Fold.f k s = some r ∧ L r = catG foldS (vals (L s)) := by
  unfold spoof_Fold.f
  refine kept_eq _ foldS foldS_len (fun v hv => ?_) s hs
  unfold spoof_Fold_1.f foldS
  rw [prog_skel]
  simp only [Option.bind_some]
  rw [prog_enc k _ (by omega) (skel_right v hv)]
  exact ⟨_, rfl, rfl⟩
theorem tell_prog (k : Nat) (hk : 30 ≤ k) (s : ByteArray) (hs : s.size ≤ 1000000000) : ∃ r, spoof_Tell.f k s = some r ∧ L r = catG txtS (vals (L s)) := by
  unfold spoof_Tell.f
  exact kept_eq _ txtS (fun v => by have := txtS_len v; omega) (fun v hv => text_prog k v hk hv) s hs
theorem rd_int (l : List Int) (i : Nat) (h : i < l.length) : rd l (i : Int) = l[i] := by
  unfold rd
  rw [Int.toNat_natCast, List.getD_eq_getElem?_getD, List.getElem?_eq_getElem h]
  rfl
theorem w64_succ (i : Nat) (h : i < 9223372036854775807) : wrap64 ((i : Int) + 1) = ((i + 1 : Nat) : Int) := by
  unfold wrap64
  omega
theorem strip_loop (l : List Int) (hl : l.length ≤ 1000000000) (hr : ∀ v ∈ l, rightB v = true) : ∀ (n k i : Nat) (acc : ByteArray), l.length - i ≤ n → n + 110 ≤ k → i ≤ l.length → acc.size ≤ 16 * i → ∃ r, dactylref44_Strip.l0 k l acc (i : Int) = some r ∧ L r = L acc ++ catG stripS (l.drop i) := by
  intro n
  induction n with
  | zero =>
    intro k i acc h0 hk hi hs
    obtain ⟨k, rfl⟩ : ∃ m, k = m + 1 := ⟨k - 1, by omega⟩
    simp only [dactylref44_Strip.l0]
    rw [if_neg (by omega), List.drop_eq_nil_of_le (by omega)]
    exact ⟨acc, rfl, by rw [catG_nil, List.append_nil]⟩
  | succ n ih =>
    intro k i acc h0 hk hi hs
    obtain ⟨k, rfl⟩ : ∃ m, k = m + 1 := ⟨k - 1, by omega⟩
    simp only [dactylref44_Strip.l0]
    by_cases c : i < l.length
    · have hv := hr l[i] (List.getElem_mem c)
      have hb : (strOfNums (encI l[i])).size ≤ 4 := by rw [strOfNums_size]; exact (encI_len _).2
      rw [if_pos (by omega), if_pos (by omega), rd_int l i c, ref_of k _ (by omega), ref_bytes _ hv, w64_succ i (by omega)]
      simp only [Option.bind_some]
      rw [List.drop_eq_getElem_cons c, catG_cons]
      by_cases d : ofS l[i] ≤ 3
      · obtain ⟨r, r1, r2⟩ := ih k (i + 1) (acc ++ strOfNums (encI l[i])) (by omega) (by omega) (by omega) (by rw [ByteArray.size_append]; omega)
        refine ⟨r, ?_, ?_⟩
        · rw [if_pos d, if_pos (by omega), r1]
        · rw [r2, L_app, L_enc, List.append_assoc]
          unfold stripS
          rw [if_pos d]
      · obtain ⟨r, r1, r2⟩ := ih k (i + 1) acc (by omega) (by omega) (by omega) (by omega)
        refine ⟨r, ?_, ?_⟩
        · rw [if_neg d, r1]
        · rw [r2]
          unfold stripS
          rw [if_neg d]
          rfl
    · rw [if_neg (by omega), List.drop_eq_nil_of_le (by omega)]
      exact ⟨acc, rfl, by rw [catG_nil, List.append_nil]⟩
theorem strip_ref (k : Nat) (s : ByteArray) (hs : s.size ≤ 1000000) (hk : s.size + 200 ≤ k) : ∃ r, dactylref44_Strip.f k s = some r ∧ L r = catG stripS (vals (L s)) := by
  have hv := vals_len (L s)
  rw [L_len] at hv
  obtain ⟨r, h1, h2⟩ := strip_loop (vals (L s)) (by omega) (vals_right (L s)) (vals (L s)).length k 0 ⟨#[]⟩ (by omega) (by omega) (Nat.zero_le _) (Nat.zero_le _)
  refine ⟨r, ?_, ?_⟩
  · unfold dactylref44_Strip.f
    rw [ref_dec k s (by omega) (by omega)]
    exact h1
  · rw [h2, List.drop_zero]
    rfl
theorem fold_loop (l : List Int) (hl : l.length ≤ 1000000000) (hr : ∀ v ∈ l, rightB v = true) : ∀ (n k i : Nat) (acc : ByteArray), l.length - i ≤ n → n + 110 ≤ k → i ≤ l.length → acc.size ≤ 16 * i → ∃ r, dactylref44_Fold.l0 k l acc (i : Int) = some r ∧ L r = L acc ++ catG foldS (l.drop i) := by
  intro n
  induction n with
  | zero =>
    intro k i acc h0 hk hi hs
    obtain ⟨k, rfl⟩ : ∃ m, k = m + 1 := ⟨k - 1, by omega⟩
    simp only [dactylref44_Fold.l0]
    rw [if_neg (by omega), List.drop_eq_nil_of_le (by omega)]
    exact ⟨acc, rfl, by rw [catG_nil, List.append_nil]⟩
  | succ n ih =>
    intro k i acc h0 hk hi hs
    obtain ⟨k, rfl⟩ : ∃ m, k = m + 1 := ⟨k - 1, by omega⟩
    simp only [dactylref44_Fold.l0]
    by_cases c : i < l.length
    · have hv := hr l[i] (List.getElem_mem c)
      have hb : (strOfNums (encI (skelS l[i]))).size ≤ 4 := by rw [strOfNums_size]; exact (encI_len _).2
      rw [if_pos (by omega), if_pos (by omega), rd_int l i c, ref_skel k _ (by omega)]
      simp only [Option.bind_some]
      rw [ref_bytes _ (skel_right _ hv), w64_succ i (by omega)]
      simp only [Option.bind_some]
      rw [List.drop_eq_getElem_cons c, catG_cons]
      obtain ⟨r, r1, r2⟩ := ih k (i + 1) (acc ++ strOfNums (encI (skelS l[i]))) (by omega) (by omega) (by omega) (by rw [ByteArray.size_append]; omega)
      refine ⟨r, ?_, ?_⟩
      · rw [if_pos (by omega), r1]
      · rw [r2, L_app, L_enc, List.append_assoc]
        rfl
    · rw [if_neg (by omega), List.drop_eq_nil_of_le (by omega)]
      exact ⟨acc, rfl, by rw [catG_nil, List.append_nil]⟩
theorem fold_ref (k : Nat) (s : ByteArray) (hs : s.size ≤ 1000000) (hk : s.size + 200 ≤ k) : ∃ r, dactylref44_Fold.f k s = some r ∧ L r = catG foldS (vals (L s)) := by
  have hv := vals_len (L s)
  rw [L_len] at hv
  obtain ⟨r, h1, h2⟩ := fold_loop (vals (L s)) (by omega) (vals_right (L s)) (vals (L s)).length k 0 ⟨#[]⟩ (by omega) (by omega) (Nat.zero_le _) (Nat.zero_le _)
  refine ⟨r, ?_, ?_⟩
  · unfold dactylref44_Fold.f
    rw [ref_dec k s (by omega) (by omega)]
    exact h1
  · rw [h2, List.drop_zero]
    rfl
theorem tell_loop (l : List Int) (hl : l.length ≤ 1000000000) (hr : ∀ v ∈ l, rightB v = true) : ∀ (n k i : Nat) (acc : ByteArray), l.length - i ≤ n → n + 110 ≤ k → i ≤ l.length → acc.size ≤ 16 * i → ∃ r, dactylref44_Tell.l0 k l acc (i : Int) = some r ∧ L r = L acc ++ catG txtS (l.drop i) := by
  intro n
  induction n with
  | zero =>
    intro k i acc h0 hk hi hs
    obtain ⟨k, rfl⟩ : ∃ m, k = m + 1 := ⟨k - 1, by omega⟩
    simp only [dactylref44_Tell.l0]
    rw [if_neg (by omega), List.drop_eq_nil_of_le (by omega)]
    exact ⟨acc, rfl, by rw [catG_nil, List.append_nil]⟩
  | succ n ih =>
    intro k i acc h0 hk hi hs
    obtain ⟨k, rfl⟩ : ∃ m, k = m + 1 := ⟨k - 1, by omega⟩
    simp only [dactylref44_Tell.l0]
    by_cases c : i < l.length
    · have hv := hr l[i] (List.getElem_mem c)
      obtain ⟨t, t1, t2⟩ := text_ref k l[i] (by omega) hv
      have hb : t.size ≤ 10 := by rw [← L_len, t2]; exact txtS_len _
      rw [if_pos (by omega), if_pos (by omega), rd_int l i c, t1]
      simp only [Option.bind_some]
      rw [w64_succ i (by omega), List.drop_eq_getElem_cons c, catG_cons]
      obtain ⟨r, r1, r2⟩ := ih k (i + 1) (acc ++ t) (by omega) (by omega) (by omega) (by rw [ByteArray.size_append]; omega)
      refine ⟨r, ?_, ?_⟩
      · rw [if_pos (by omega), r1]
      · rw [r2, L_app, t2, List.append_assoc]
    · rw [if_neg (by omega), List.drop_eq_nil_of_le (by omega)]
      exact ⟨acc, rfl, by rw [catG_nil, List.append_nil]⟩
theorem tell_ref (k : Nat) (s : ByteArray) (hs : s.size ≤ 1000000) (hk : s.size + 200 ≤ k) : ∃ r, dactylref44_Tell.f k s = some r ∧ L r = catG txtS (vals (L s)) := by
  have hv := vals_len (L s)
  rw [L_len] at hv
  obtain ⟨r, h1, h2⟩ := tell_loop (vals (L s)) (by omega) (vals_right (L s)) (vals (L s)).length k 0 ⟨#[]⟩ (by omega) (by omega) (Nat.zero_le _) (Nat.zero_le _)
  refine ⟨r, ?_, ?_⟩
  · unfold dactylref44_Tell.f
    rw [ref_dec k s (by omega) (by omega)]
    exact h1
  · rw [h2, List.drop_zero]
    rfl
end Go.Proofs.Ytpkmoonfnbcphaa.Q
