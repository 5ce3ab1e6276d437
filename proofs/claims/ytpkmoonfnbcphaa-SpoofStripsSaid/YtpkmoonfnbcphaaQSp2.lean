/- Plain facts: the shown text of a value, as the program and as the reference tell it. -/
import Derived.Test.YtpkmoonfnbcphaaPAllx3
import Derived.Test.YtpkmoonfnbcphaaPAllx8
import Derived.Test.YtpkmoonfnbcphaaQSp1
set_option linter.unusedVariables false
set_option linter.unusedSimpArgs false
namespace Go.Proofs.Ytpkmoonfnbcphaa.Q
open Go.RowKit Go.Proofs.Ytpkmoonfnbcphaa.PAll Go.Proofs.YtpkmoonfnbcphaaW.PrintWords Go.Proofs.YtpkmoonfnbcphaaW.PrintLast Go.Proofs.YtpkmoonfnbcphaaW.PrintMore
def hexd (n : Nat) : UInt8 := ([48, 49, 50, 51, 52, 53, 54, 55, 56, 57, 65, 66, 67, 68, 69, 70] : List UInt8).getD n 0
theorem d_all : (List.range 16).all (fun n => decide (L (num_laid.d (n : Int)) = [hexd n]) && (match dactylref01_Digit.f (n : Int) with | some b => decide (L b = [hexd n]) | none => false)) = true := by decide +kernel
theorem d_fact (n : Int) (h0 : 0 ≤ n) (h1 : n < 16) : L (num_laid.d n) = [hexd n.toNat] ∧ ∃ b, dactylref01_Digit.f n = some b ∧ L b = [hexd n.toNat] := by
  obtain ⟨m, rfl⟩ := Int.eq_ofNat_of_zero_le h0
  have h := List.all_eq_true.mp d_all m (List.mem_range.mpr (by omega))
  rw [Bool.and_eq_true] at h
  refine ⟨of_decide_eq_true h.1, ?_⟩
  have h2 := h.2
  cases hq : dactylref01_Digit.f (m : Int) with
  | none => rw [hq] at h2; cases h2
  | some b => rw [hq] at h2; exact ⟨b, rfl, of_decide_eq_true h2⟩
theorem d_size1 (n : Int) (h0 : 0 ≤ n) (h1 : n < 16) : (num_laid.d n).size = 1 := by
  have h := (d_fact n h0 h1).1
  rw [← L_len, h]
  rfl
def hexN : Nat → Nat → List UInt8
  | 0, _ => []
  | j + 1, n => hexN j (n / 16) ++ [hexd (n % 16)]
theorem hexN_len : ∀ j n, (hexN j n).length = j
  | 0, _ => rfl
  | j + 1, n => by rw [hexN, List.length_append, hexN_len j]; rfl
theorem hexd_all : (List.range 16).all (fun n => decide (48 ≤ (hexd n).toNat ∧ (hexd n).toNat ≤ 70)) = true := by decide +kernel
theorem hexN_bytes : ∀ j n, ∀ x ∈ hexN j n, 48 ≤ x.toNat ∧ x.toNat ≤ 70
  | 0, _ => fun x hx => by cases hx
  | j + 1, n => fun x hx => by
    rw [hexN] at hx
    rcases List.mem_append.mp hx with h | h
    · exact hexN_bytes j _ x h
    · rw [List.mem_singleton.mp h]
      exact of_decide_eq_true (List.all_eq_true.mp hexd_all (n % 16) (List.mem_range.mpr (by omega)))
/-- Digits: at least w of them, and as many as the number takes. -/
def hexW (w n : Nat) : List UInt8 := hexN (if n < 256 ∧ w = 2 then 2 else if n < 65536 then 4 else if n < 1048576 then 5 else 6) n
theorem hex_ref : ∀ (j k : Nat) (n w : Int), 0 ≤ n → n ≤ 2000000 → n < (16 : Int) ^ (j + 1) → j ≤ 10 → 2 * j + 2 ≤ k → (j : Int) - 100 ≤ w → w ≤ j + 1 → (w = j + 1 ∨ j = 0 ∨ (16 : Int) ^ j ≤ n) → ∃ b, dactylref01_Hex.f k n w = some b ∧ L b = hexN (j + 1) n.toNat := by
  intro j
  induction j with
  | zero =>
    intro k n w h0 _ h1 _ hk hw1 hw _
    obtain ⟨k, rfl⟩ : ∃ m, k = m + 2 := ⟨k - 2, by omega⟩
    obtain ⟨b, h2, h3⟩ := (d_fact n h0 (by omega)).2
    refine ⟨b, ?_, ?_⟩
    · simp only [dactylref01_Hex.f, dactylref01_Hex.j0]
      rw [if_pos (by omega), if_pos (decide_eq_true (by omega)), h2]
      rfl
    · rw [h3]
      simp only [hexN, List.nil_append]
      rw [Nat.mod_eq_of_lt (by omega)]
  | succ j ih =>
    intro k n w h0 hn h1 hj hk hw1 hw hor
    obtain ⟨k, rfl⟩ : ∃ m, k = m + 2 := ⟨k - 2, by omega⟩
    have hp : (16 : Int) ^ (j + 1 + 1) = 16 * 16 ^ (j + 1) := by rw [Int.pow_succ, Int.mul_comm]
    have hp1 : (16 : Int) ^ (j + 1) = 16 * 16 ^ j := by rw [Int.pow_succ, Int.mul_comm]
    have hpj : (0 : Int) < 16 ^ j := Int.pow_pos (by decide)
    rw [hp] at h1
    rw [hp1] at hor
    have hor2 : w - 1 = j + 1 ∨ j = 0 ∨ (16 : Int) ^ j ≤ n / 16 := by
      rcases hor with h | h | h
      · left; omega
      · omega
      · right; right; generalize (16 : Int) ^ j = P at h; omega
    have h16 : ¬ (n < 16 ∧ w ≤ 1) := by
      rintro ⟨a, b⟩
      rcases hor with h | h | h
      · omega
      · omega
      · generalize (16 : Int) ^ j = P at h hpj; omega
    have hlt : n / 16 < (16 : Int) ^ (j + 1) := by generalize (16 : Int) ^ (j + 1) = P at h1; omega
    clear hp hp1 hpj h1 hor
    have e1 : wrap64 (Int.tdiv n 16) = n / 16 := by
      rw [Int.tdiv_eq_ediv_of_nonneg h0]
      unfold wrap64
      omega
    have e2 : wrap64 (w - 1) = w - 1 := by
      unfold wrap64
      omega
    have e3 : Int.tmod n 16 = n % 16 := by rw [Int.tmod_eq_emod_of_nonneg h0]
    obtain ⟨b, h2, h3⟩ := ih k (n / 16) (w - 1) (by omega) (by omega) hlt (by omega) (by omega) (by omega) (by omega) hor2
    obtain ⟨c, h4, h5⟩ := (d_fact (n % 16) (by omega) (by omega)).2
    have hbs : b.size = j + 1 := by rw [← L_len, h3, hexN_len]
    have hcs : c.size = 1 := by rw [← L_len, h5]; rfl
    refine ⟨b ++ c, ?_, ?_⟩
    · have step : dactylref01_Hex.f (k + 2) n w = dactylref01_Hex.j0 (k + 1) n w false := by
        simp only [dactylref01_Hex.f]
        split
        · rw [decide_eq_false (by omega)]
        · rfl
      rw [step]
      simp only [dactylref01_Hex.j0, Bool.false_eq_true, if_false]
      rw [e1, e2, e3, h2, h4]
      simp only [Option.bind_some]
      rw [if_pos (by omega)]
    · rw [L_app, h3, h5, hexN, hexN, hexN, show (n / 16).toNat = n.toNat / 16 by omega, show (n % 16).toNat = n.toNat % 16 by omega]
theorem laid_hex (w : Int) : ∀ (j k : Nat) (u : Int) (s : ByteArray), 0 ≤ u → u < (16 : Int) ^ j → j < k → (w ≤ (s.size : Int) + j) → (j = 0 ∨ w = (s.size : Int) + j ∨ (16 : Int) ^ (j - 1) ≤ u) → ∃ b, num_laid.l 16 w k u s = some b ∧ L b = hexN j u.toNat ++ L s := by
  intro j
  induction j with
  | zero =>
    intro k u s h0 h1 hk hw _
    obtain ⟨k, rfl⟩ : ∃ m, k = m + 1 := ⟨k - 1, by omega⟩
    have : u = 0 := by simp at h1; omega
    subst this
    refine ⟨s, ?_, rfl⟩
    rw [num_laid.l, if_neg (by omega), if_neg (by omega)]
  | succ j ih =>
    intro k u s h0 h1 hk hw hor
    obtain ⟨k, rfl⟩ : ∃ m, k = m + 1 := ⟨k - 1, by omega⟩
    have hp : (16 : Int) ^ (j + 1) = 16 * 16 ^ j := by rw [Int.pow_succ, Int.mul_comm]
    have hs1 : (num_laid.d (u % 16)).size = 1 := d_size1 _ (by omega) (by omega)
    have hlt : u / 16 < (16 : Int) ^ j := by rw [hp] at h1; generalize (16 : Int) ^ j = P at h1; omega
    rw [Nat.add_sub_cancel] at hor
    have hor2 : j = 0 ∨ w = ((num_laid.d (u % 16) ++ s).size : Int) + j ∨ (16 : Int) ^ (j - 1) ≤ u / 16 := by
      rw [ByteArray.size_append, hs1]
      rcases Nat.eq_zero_or_pos j with h | h
      · exact .inl h
      · rcases hor with h2 | h2 | h2
        · omega
        · right; left; omega
        · right; right
          obtain ⟨i, rfl⟩ : ∃ i, j = i + 1 := ⟨j - 1, by omega⟩
          rw [Nat.add_sub_cancel]
          have : (16 : Int) ^ (i + 1) = 16 * 16 ^ i := by rw [Int.pow_succ, Int.mul_comm]
          rw [this] at h2
          generalize (16 : Int) ^ i = P at h2 ⊢
          omega
    have hpos : 0 < u ∨ (s.size : Int) < w := by
      rcases hor with h2 | h2 | h2
      · omega
      · right; omega
      · left
        have : (0 : Int) < 16 ^ j := Int.pow_pos (by decide)
        generalize (16 : Int) ^ j = P at h2 this
        omega
    obtain ⟨b, h2, h3⟩ := ih k (u / 16) (num_laid.d (u % 16) ++ s) (by omega) hlt (by omega) (by rw [ByteArray.size_append, hs1]; omega) hor2
    refine ⟨b, ?_, ?_⟩
    · rw [num_laid.l]
      by_cases c : 0 < u
      · rw [if_pos c, h2]
      · rw [if_neg c, if_pos (by omega), h2]
    · rw [h3, L_app, (d_fact (u % 16) (by omega) (by omega)).1, hexN, List.append_assoc, show (u / 16).toNat = u.toNat / 16 by omega, show (u % 16).toNat = u.toNat % 16 by omega]
theorem hex_both (k : Nat) (v w : Int) (h0 : 0 ≤ v) (h1 : v ≤ 1114367) (hw : w = 4 ∨ (w = 2 ∧ v < 256)) (hk : 30 ≤ k) : (∃ b, num_Hex.f v w = some b ∧ L b = hexW w.toNat v.toNat) ∧ (∃ b, dactylref01_Hex.f k v w = some b ∧ L b = hexW w.toNat v.toNat) := by
  have hwp : num_Hex.w w = w := by unfold num_Hex.w; rw [if_neg (by omega), if_neg (by omega)]
  have key : ∀ j : Nat, j ≤ 5 → v < (16 : Int) ^ (j + 1) → w ≤ (j : Int) + 1 → (w = (j : Int) + 1 ∨ (16 : Int) ^ j ≤ v) → hexN (j + 1) v.toNat = hexW w.toNat v.toNat → (∃ b, num_Hex.f v w = some b ∧ L b = hexW w.toNat v.toNat) ∧ (∃ b, dactylref01_Hex.f k v w = some b ∧ L b = hexW w.toNat v.toNat) := by
    intro j hj a b c d
    obtain ⟨p, p1, p2⟩ := laid_hex w (j + 1) 64 v ⟨#[]⟩ h0 a (by omega) (by show w ≤ ((0 : Nat) : Int) + _; omega) (by
      rw [Nat.add_sub_cancel]
      rcases c with c | c
      · right; left; show w = ((0 : Nat) : Int) + _; omega
      · exact .inr (.inr c))
    obtain ⟨q, q1, q2⟩ := hex_ref j k v w h0 (by omega) a (by omega) (by omega) (by omega) b (by
      rcases c with c | c
      · exact .inl c
      · exact .inr (.inr c))
    refine ⟨⟨p, ?_, ?_⟩, ⟨q, q1, q2.trans d⟩⟩
    · unfold num_Hex.f
      rw [if_neg (by omega), if_pos (by omega), hwp, p1]
    · rw [p2, d]
      exact List.append_nil _
  rcases hw with rfl | ⟨rfl, h2⟩
  · by_cases c1 : v < 65536
    · exact key 3 (by decide) (by show v < 65536; omega) (by decide) (.inl rfl) (by unfold hexW; rw [if_neg (by intro h; exact absurd h.2 (by decide)), if_pos (by omega)])
    · by_cases c2 : v < 1048576
      · exact key 4 (by decide) (by show v < 1048576; omega) (by decide) (.inr (by show 65536 ≤ v; omega)) (by unfold hexW; rw [if_neg (by intro h; exact absurd h.2 (by decide)), if_neg (by omega), if_pos (by omega)])
      · exact key 5 (by decide) (by show v < 16777216; omega) (by decide) (.inr (by show 1048576 ≤ v; omega)) (by unfold hexW; rw [if_neg (by intro h; exact absurd h.2 (by decide)), if_neg (by omega), if_neg (by omega)])
  · exact key 1 (by decide) (by show v < 256; omega) (by decide) (.inl rfl) (by unfold hexW; rw [if_pos ⟨by omega, rfl⟩])
/-- A value's shown text. -/
def txtS (v : Int) : List UInt8 := if ofS v = 0 then [] else if ofS v ≤ 3 then encS v else if ofS v = 4 then 94 :: encS (v + 64) else if ofS v = 5 then [94, 63] else if ofS v = 12 then 92 :: 120 :: hexW 2 (v - 1114112).toNat else 60 :: 85 :: 43 :: (hexW 4 v.toNat ++ [62])
theorem odd4 (v : Int) (h : oddS v = 4) : v ≤ 31 := by
  unfold oddS at h
  repeat' split at h
  all_goals first | omega | (exfalso; revert h; decide)
theorem odd_not12 (v : Int) : oddS v ≠ 12 := by
  unfold oddS
  repeat' split
  all_goals decide
theorem of_facts (v : Int) (hv : rightB v = true) : 1 ≤ ofS v ∧ (ofS v = 4 → v ≤ 31) ∧ (ofS v = 12 ↔ v > 1114111) := by
  have ho := odd_cases v
  have h4 := odd4 v
  have h12 := odd_not12 v
  unfold ofS
  rw [if_pos hv]
  by_cases c1 : v > 1114111
  · rw [if_pos c1]
    exact ⟨by decide, fun h => absurd h (by decide), fun _ => c1, fun _ => rfl⟩
  · rw [if_neg c1]
    by_cases c2 : oddS v > 0
    · rw [if_pos c2]
      exact ⟨by omega, h4, fun h => absurd h h12, fun h => absurd h c1⟩
    · rw [if_neg c2]
      repeat' split
      all_goals exact ⟨by decide, fun h => absurd h (by decide), fun h => absurd h (by decide), fun h => absurd h c1⟩
theorem hexW_len (w n : Nat) : (hexW w n).length ≤ 6 := by
  unfold hexW
  rw [hexN_len]
  repeat' split
  all_goals omega
theorem text_prog (k : Nat) (v : Int) (hk : 30 ≤ k) (hv : rightB v = true) : ∃ t, show_Text.f k v = some t ∧ L t = txtS v := by
  obtain ⟨k, rfl⟩ : ∃ m, k = m + 1 := ⟨k - 1, by omega⟩
  have hr := (right_iff v).mp hv
  obtain ⟨f1, f2, f3⟩ := of_facts v hv
  have hof := prog_of (k + 1) v (by omega)
  unfold show_Text.f txtS
  rw [hof]
  simp only [Option.bind_some, show_Text.j0]
  by_cases c3 : ofS v ≤ 3
  · refine ⟨strOfNums (encI v), ?_, ?_⟩
    · rw [if_neg (by omega)]
      have e : ∀ b : Bool, (b = true) → (if b = true then ((utf_Encode.f k (([v] : List Int))).bind fun t180 => (some t180)) else (none : Option ByteArray)) = some (strOfNums (encI v)) := by
        intro b hb
        rw [if_pos hb, prog_enc k v (by omega) hv]
        rfl
      by_cases d1 : ofS v = 1
      · rw [if_pos d1, if_pos (beq_iff_eq.mpr d1), prog_enc k v (by omega) hv]; rfl
      · rw [if_neg d1]
        by_cases d2 : ofS v = 2
        · rw [if_pos d2, if_pos (beq_iff_eq.mpr d2), prog_enc k v (by omega) hv]; rfl
        · rw [if_neg d2, if_pos (beq_iff_eq.mpr (by omega)), prog_enc k v (by omega) hv]; rfl
    · rw [if_neg (by omega), if_pos c3]; rfl
  · rw [if_neg (by omega), if_neg (by omega), if_neg (by omega), if_neg (by rw [beq_iff_eq]; omega), if_neg (show ¬ ofS v = 0 by omega), if_neg c3]
    by_cases c4 : ofS v = 4
    · have := f2 c4
      have hv2 : rightB (v + 64) = true := (right_iff _).mpr (by omega)
      refine ⟨(⟨#[94]⟩ : ByteArray) ++ strOfNums (encI (v + 64)), ?_, ?_⟩
      rotate_left
      · rw [if_pos c4, L_app]
        rfl
      · have hsz : (strOfNums (encI (v + 64))).size ≤ 4 := by rw [strOfNums_size]; exact (encI_len _).2
        rw [if_pos c4, w64_id (v + 64) (by omega) (by omega), prog_enc k _ (by omega) hv2]
        simp only [Option.bind_some]
        rw [if_pos (by omega)]
    · rw [if_neg c4, if_neg c4]
      by_cases c5 : ofS v = 5
      · rw [if_pos c5, if_pos c5]
        exact ⟨_, rfl, rfl⟩
      · rw [if_neg c5, if_neg c5]
        by_cases c6 : ofS v = 12
        · have := f3.mp c6
          rw [if_pos c6, if_pos c6, w64_id (v - 1114112) (by omega) (by omega)]
          obtain ⟨⟨b, h1, h2⟩, _⟩ := hex_both 30 (v - 1114112) 2 (by omega) (by omega) (.inr ⟨rfl, by omega⟩) (by omega)
          have hb : b.size ≤ 6 := by rw [← L_len, h2]; exact hexW_len _ _
          rw [h1]
          simp only [Option.bind_some]
          refine ⟨_, if_pos (by omega), ?_⟩
          rw [L_app, h2]
          rfl
        · rw [if_neg c6, if_neg c6]
          have : ¬ v > 1114111 := fun h => c6 (f3.mpr h)
          obtain ⟨⟨b, h1, h2⟩, _⟩ := hex_both 30 v 4 (by omega) (by omega) (.inl rfl) (by omega)
          have hb : b.size ≤ 6 := by rw [← L_len, h2]; exact hexW_len _ _
          rw [h1]
          simp only [Option.bind_some]
          refine ⟨(⟨#[60, 85, 43]⟩ : ByteArray) ++ b ++ (⟨#[62]⟩ : ByteArray), ?_, ?_⟩
          · rw [if_pos (by omega), if_pos (by rw [ByteArray.size_append, show (⟨#[60, 85, 43]⟩ : ByteArray).size = 3 from rfl]; omega)]
          · rw [L_app, L_app, h2]
            rfl
theorem text_ref (k : Nat) (v : Int) (hk : 100 ≤ k) (hv : rightB v = true) : ∃ t, dactylref06_Text.f k v = some t ∧ L t = txtS v := by
  have hr := (right_iff v).mp hv
  obtain ⟨f1, f2, f3⟩ := of_facts v hv
  unfold dactylref06_Text.f txtS
  rw [ref_of k v hk]
  simp only [Option.bind_some]
  rw [if_neg (by omega), if_neg (show ¬ ofS v = 0 by omega)]
  by_cases c3 : ofS v ≤ 3
  · rw [if_pos c3, if_pos c3, ref_bytes v hv]
    exact ⟨_, rfl, rfl⟩
  · rw [if_neg c3, if_neg c3]
    by_cases c4 : ofS v = 4
    · have := f2 c4
      rw [if_pos c4, if_pos c4, w64_id (v + 64) (by omega) (by omega), if_pos (by rw [strOfNums_size]; simp only [List.length_cons, List.length_nil]; omega)]
      refine ⟨_, rfl, ?_⟩
      rw [L_app]
      unfold encS encI
      rw [if_pos (by omega), show (v + 64) % 256 = v + 64 by omega]
      rfl
    · rw [if_neg c4, if_neg c4]
      by_cases c5 : ofS v = 5
      · rw [if_pos c5, if_pos c5]
        exact ⟨_, rfl, rfl⟩
      · rw [if_neg c5, if_neg c5]
        by_cases c6 : ofS v = 12
        · have := f3.mp c6
          rw [if_pos c6, if_pos c6, w64_id (v - 1114112) (by omega) (by omega)]
          obtain ⟨_, ⟨b, h1, h2⟩⟩ := hex_both k (v - 1114112) 2 (by omega) (by omega) (.inr ⟨rfl, by omega⟩) (by omega)
          have hb : b.size ≤ 6 := by rw [← L_len, h2]; exact hexW_len _ _
          rw [h1]
          simp only [Option.bind_some]
          refine ⟨_, if_pos (by omega), ?_⟩
          rw [L_app, h2]
          rfl
        · rw [if_neg c6, if_neg c6]
          have : ¬ v > 1114111 := fun h => c6 (f3.mpr h)
          obtain ⟨_, ⟨b, h1, h2⟩⟩ := hex_both k v 4 (by omega) (by omega) (.inl rfl) (by omega)
          have hb : b.size ≤ 6 := by rw [← L_len, h2]; exact hexW_len _ _
          rw [h1]
          simp only [Option.bind_some]
          refine ⟨(⟨#[60, 85, 43]⟩ : ByteArray) ++ b ++ (⟨#[62]⟩ : ByteArray), ?_, ?_⟩
          · rw [if_pos (by omega), if_pos (by rw [ByteArray.size_append, show (⟨#[60, 85, 43]⟩ : ByteArray).size = 3 from rfl]; omega)]
          · rw [L_app, L_app, h2]
            rfl
theorem txtS_len (v : Int) : (txtS v).length ≤ 10 := by
  have a := (encS_len v).2
  have b := (encS_len (v + 64)).2
  have c := hexW_len 2 (v - 1114112).toNat
  have d := hexW_len 4 v.toNat
  unfold txtS
  repeat' split
  all_goals (try simp only [List.length_cons, List.length_append, List.length_nil])
  all_goals omega
end Go.Proofs.Ytpkmoonfnbcphaa.Q
