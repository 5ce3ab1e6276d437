/- Plain facts: the values of a text, as the program tells them and as the reference tells them, are one list; and what that list says of texts put together. -/
import Derived.Test.YtpkmoonfnbcphaaPAllx6
import Derived.Test.YtpkmoonfnbcphaaPAllx3
import Derived.Test.YtpkmoonfnbcphaaPAllx1
set_option linter.unusedVariables false
set_option linter.unusedSimpArgs false
namespace Go.Proofs.Ytpkmoonfnbcphaa.Q
open Go.RowKit Go.Proofs.Ytpkmoonfnbcphaa.PAll Go.Proofs.YtpkmoonfnbcphaaW.PrintWords Go.Proofs.YtpkmoonfnbcphaaW.PrintLast Go.Proofs.YtpkmoonfnbcphaaW.PrintMore
def szI (b : Int) : Int := if b < 128 then 1 else if 194 ≤ b ∧ b ≤ 223 then 2 else if 224 ≤ b ∧ b ≤ 239 then 3 else if 240 ≤ b ∧ b ≤ 244 then 4 else 0
theorem size_eq (k : Nat) (b : Int) (hk : 2 ≤ k) : dactylref02_Size.f k b = some (szI b) := by
  obtain ⟨k, rfl⟩ : ∃ m, k = m + 2 := ⟨k - 2, by omega⟩
  simp only [dactylref02_Size.f, dactylref02_Size.j0, dactylref02_Size.j1, decide_eq_true_eq, Bool.false_eq_true, if_false]
  unfold szI
  repeat' split
  all_goals first | rfl | (exfalso; omega)
def mayP (f c i : Int) : Prop := 128 ≤ c ∧ c ≤ 191 ∧ (1 < i ∨ (¬ (f = 224 ∧ c < 160) ∧ ¬ (f = 237 ∧ 159 < c) ∧ ¬ (f = 240 ∧ c < 144) ∧ ¬ (f = 244 ∧ 143 < c)))
instance (f c i : Int) : Decidable (mayP f c i) := by unfold mayP; infer_instance
theorem may_eq (k : Nat) (f c i : Int) (hk : 1 ≤ k) : dactylref02_May.f k f c i = some (decide (mayP f c i)) := by
  obtain ⟨k, rfl⟩ : ∃ m, k = m + 1 := ⟨k - 1, by omega⟩
  simp only [dactylref02_May.f, dactylref02_May.j0, decide_eq_true_eq, if_true]
  by_cases c1 : c < 128
  · rw [if_pos c1]
    congr 1
    exact (decide_eq_false (fun h => by have := h.1; omega)).symm
  rw [if_neg c1]
  by_cases c2 : c > 191
  · rw [if_pos c2]
    congr 1
    exact (decide_eq_false (fun h => by have := h.2.1; omega)).symm
  rw [if_neg c2]
  by_cases c3 : i > 1
  · rw [if_pos c3]
    congr 1
    exact (decide_eq_true ⟨by omega, by omega, .inl (by omega)⟩).symm
  rw [if_neg c3]
  have key : ∀ (b : Bool), (b = true ↔ mayP f c i) → (some b = some (decide (mayP f c i))) := by
    intro b h
    congr 1
    by_cases hp : mayP f c i
    · rw [decide_eq_true hp]; exact h.2 hp
    · rw [decide_eq_false hp]; cases b with
      | false => rfl
      | true => exact absurd (h.1 rfl) hp
  repeat' split
  all_goals
    apply key
    unfold mayP
    simp only [Bool.not_true, Bool.not_false, Bool.false_eq_true, false_iff, true_iff, Bool.not_eq_true', decide_eq_false_iff_not]
    omega
/-- The value and the width of what a text begins with, out of its first four bytes and its size. -/
def oneI (n b0 b1 b2 b3 : Int) : Int × Int :=
  if b0 < 128 then (b0, 1)
  else if 194 ≤ b0 ∧ b0 ≤ 223 ∧ 1 < n ∧ mayP b0 b1 1 then ((b0 - 192) * 64 + b1 - 128, 2)
  else if 224 ≤ b0 ∧ b0 ≤ 239 ∧ 2 < n ∧ mayP b0 b1 1 ∧ mayP b0 b2 2 then (((b0 - 224) * 64 + b1 - 128) * 64 + b2 - 128, 3)
  else if 240 ≤ b0 ∧ b0 ≤ 244 ∧ 3 < n ∧ mayP b0 b1 1 ∧ mayP b0 b2 2 ∧ mayP b0 b3 3 then ((((b0 - 240) * 64 + b1 - 128) * 64 + b2 - 128) * 64 + b3 - 128, 4)
  else (1114112 + b0, 1)
theorem oneI_1 (n b0 b1 b2 b3 : Int) (h : b0 < 128) : oneI n b0 b1 b2 b3 = (b0, 1) := by
  unfold oneI
  rw [if_pos h]
theorem oneI_2 (n b0 b1 b2 b3 : Int) (h : 194 ≤ b0 ∧ b0 ≤ 223 ∧ 1 < n ∧ mayP b0 b1 1) : oneI n b0 b1 b2 b3 = ((b0 - 192) * 64 + b1 - 128, 2) := by
  unfold oneI
  rw [if_neg (by omega), if_pos h]
theorem oneI_3 (n b0 b1 b2 b3 : Int) (h : 224 ≤ b0 ∧ b0 ≤ 239 ∧ 2 < n ∧ mayP b0 b1 1 ∧ mayP b0 b2 2) : oneI n b0 b1 b2 b3 = (((b0 - 224) * 64 + b1 - 128) * 64 + b2 - 128, 3) := by
  unfold oneI
  rw [if_neg (by omega), if_neg (fun g => by have := g.2.1; omega), if_pos h]
theorem oneI_4 (n b0 b1 b2 b3 : Int) (h : 240 ≤ b0 ∧ b0 ≤ 244 ∧ 3 < n ∧ mayP b0 b1 1 ∧ mayP b0 b2 2 ∧ mayP b0 b3 3) : oneI n b0 b1 b2 b3 = ((((b0 - 240) * 64 + b1 - 128) * 64 + b2 - 128) * 64 + b3 - 128, 4) := by
  unfold oneI
  rw [if_neg (by omega), if_neg (fun g => by have := g.2.1; omega), if_neg (fun g => by have := g.2.1; omega), if_pos h]
theorem oneI_0 (n b0 b1 b2 b3 : Int) (h0 : ¬ b0 < 128) (h2 : ¬ (194 ≤ b0 ∧ b0 ≤ 223 ∧ 1 < n ∧ mayP b0 b1 1)) (h3 : ¬ (224 ≤ b0 ∧ b0 ≤ 239 ∧ 2 < n ∧ mayP b0 b1 1 ∧ mayP b0 b2 2)) (h4 : ¬ (240 ≤ b0 ∧ b0 ≤ 244 ∧ 3 < n ∧ mayP b0 b1 1 ∧ mayP b0 b2 2 ∧ mayP b0 b3 3)) : oneI n b0 b1 b2 b3 = (1114112 + b0, 1) := by
  unfold oneI
  rw [if_neg h0, if_neg h2, if_neg h3, if_neg h4]
theorem begins_step (k : Nat) (s : ByteArray) (i : Int) (hk : 2 ≤ k) (h0 : 0 < (s.size : Int)) (hi : 0 ≤ i) : dactylref02_Begins.l0 (k + 1) s i = if i < szI (bt s 0) ∧ i < (s.size : Int) ∧ mayP (bt s 0) (bt s i) i then dactylref02_Begins.l0 k s (wrap64 (i + 1)) else some i := by
  simp only [dactylref02_Begins.l0]
  rw [if_pos h0, size_eq k _ hk, may_eq k _ _ _ (by omega)]
  simp only [Option.bind_some, decide_eq_true_eq]
  by_cases c1 : i < szI (bt s 0)
  · rw [if_pos c1]
    by_cases c2 : i < (s.size : Int)
    · rw [if_pos c2, if_pos hi]
      by_cases c3 : mayP (bt s 0) (bt s i) i
      · rw [if_pos c3, if_pos ⟨c1, c2, c3⟩]
      · rw [if_neg c3, if_neg (fun h => c3 h.2.2)]
    · rw [if_neg c2, if_neg (fun h => c2 h.2.1)]
  · rw [if_neg c1, if_neg (fun h => c1 h.1)]
theorem one_eq (k : Nat) (s : ByteArray) (hk : 20 ≤ k) (h0 : 0 < s.size) : dactylref02_One.f k s = some (oneI s.size (bt s 0) (bt s 1) (bt s 2) (bt s 3)) := by
  obtain ⟨k, rfl⟩ : ∃ m, k = m + 12 := ⟨k - 12, by omega⟩
  have r0 := bt_range s 0
  have r1 := bt_range s 1
  have r2 := bt_range s 2
  have r3 := bt_range s 3
  have hs : (0 : Int) < (s.size : Int) := by omega
  have w2 : wrap64 ((1 : Int) + 1) = 2 := by unfold wrap64; omega
  have w3 : wrap64 ((2 : Int) + 1) = 3 := by unfold wrap64; omega
  have w4 : wrap64 ((3 : Int) + 1) = 4 := by unfold wrap64; omega
  have e1 := begins_step (k + 11) s 1 (by omega) hs (by omega)
  have e2 := begins_step (k + 10) s 2 (by omega) hs (by omega)
  have e3 := begins_step (k + 9) s 3 (by omega) hs (by omega)
  have e4 := begins_step (k + 8) s 4 (by omega) hs (by omega)
  rw [w2] at e1
  rw [w3] at e2
  rw [w4] at e3
  have sz4 : szI (bt s 0) ≤ 4 := by unfold szI; repeat' split <;> omega
  rw [if_neg (fun h => by have := h.1; omega)] at e4
  unfold dactylref02_One.f dactylref02_Begins.f
  rw [size_eq _ _ (by omega), e1]
  generalize bt s 0 = b0 at *
  generalize hb1 : bt s 1 = b1 at *
  generalize hb2 : bt s 2 = b2 at *
  generalize hb3 : bt s 3 = b3 at *
  have j0 : ∀ x y, dactylref02_One.j0 (k + 12) s x y = dactylref02_One.l0 (k + 9) s x (if x = 4 then wrap64 ((if x = 3 then wrap64 (y - 224) else y) - 240) else (if x = 3 then wrap64 (y - 224) else y)) 1 := by
    intro x y
    simp only [dactylref02_One.j0, dactylref02_One.j1, dactylref02_One.j2]
    by_cases c : x = 3
    · by_cases d : x = 4
      · omega
      · simp only [if_pos c, if_neg d]
    · by_cases d : x = 4
      · simp only [if_neg c, if_pos d]
      · simp only [if_neg c, if_neg d]
  have l1 : ∀ x y, dactylref02_One.l0 (k + 9) s x y 1 = if 1 < x then (if 1 < (s.size : Int) then dactylref02_One.l0 (k + 8) s x (wrap64 ((wrap64 ((wrap64 (y * 64)) + (wrap64 b1))) - 128)) 2 else none) else some (y, x) := by
    intro x y
    simp only [dactylref02_One.l0, w2, hb1]
    by_cases c : (1 : Int) < x
    · rw [if_pos c, if_pos c, if_pos (by decide)]
    · rw [if_neg c, if_neg c]
  have l2 : ∀ x y, dactylref02_One.l0 (k + 8) s x y 2 = if 2 < x then (if 2 < (s.size : Int) then dactylref02_One.l0 (k + 7) s x (wrap64 ((wrap64 ((wrap64 (y * 64)) + (wrap64 b2))) - 128)) 3 else none) else some (y, x) := by
    intro x y
    simp only [dactylref02_One.l0, w3, hb2]
    by_cases c : (2 : Int) < x
    · rw [if_pos c, if_pos c, if_pos (by decide)]
    · rw [if_neg c, if_neg c]
  have l3 : ∀ x y, dactylref02_One.l0 (k + 7) s x y 3 = if 3 < x then (if 3 < (s.size : Int) then dactylref02_One.l0 (k + 6) s x (wrap64 ((wrap64 ((wrap64 (y * 64)) + (wrap64 b3))) - 128)) 4 else none) else some (y, x) := by
    intro x y
    simp only [dactylref02_One.l0, w4, hb3]
    by_cases c : (3 : Int) < x
    · rw [if_pos c, if_pos c, if_pos (by decide)]
    · rw [if_neg c, if_neg c]
  have l4 : ∀ x y, x ≤ 4 → dactylref02_One.l0 (k + 6) s x y 4 = some (y, x) := by
    intro x y hx
    simp only [dactylref02_One.l0]
    rw [if_neg (by omega)]
  have W : ∀ x : Int, -4611686018427387904 ≤ x → x ≤ 4611686018427387904 → wrap64 x = x := by intro x h1 h2; unfold wrap64; omega
  have Wb0 : wrap64 b0 = b0 := W _ (by omega) (by omega)
  have Wb1 : wrap64 b1 = b1 := W _ (by omega) (by omega)
  have Wb2 : wrap64 b2 = b2 := W _ (by omega) (by omega)
  have Wb3 : wrap64 b3 = b3 := W _ (by omega) (by omega)
  have stray : wrap64 (1114112 + wrap64 b0) = 1114112 + b0 := by rw [Wb0]; exact W _ (by omega) (by omega)
  by_cases c0 : b0 < 128
  · have hz : szI b0 = 1 := by unfold szI; rw [if_pos c0]
    rw [oneI_1 _ _ _ _ _ c0, hz, if_neg (fun h => by have := h.1; omega)]
    simp only [Option.bind_some]
    rw [if_pos hs, if_pos trivial, if_neg (by omega), j0, if_neg (by omega), if_neg (by omega), l1, if_neg (by omega), Wb0]
  by_cases c2 : 194 ≤ b0 ∧ b0 ≤ 223
  · have hz : szI b0 = 2 := by unfold szI; rw [if_neg c0, if_pos c2]
    rw [hz] at e2 ⊢
    rw [if_neg (fun h => by have := h.1; omega)] at e2
    by_cases m1 : 1 < (s.size : Int) ∧ mayP b0 b1 1
    · rw [if_pos ⟨by omega, m1⟩, oneI_2 _ _ _ _ _ ⟨c2.1, c2.2, m1⟩, e2]
      have := m1.2.1; have := m1.2.2.1
      simp only [Option.bind_some]
      rw [if_pos hs, if_pos trivial, if_pos trivial, j0, if_neg (by omega), if_neg (by omega), l1, if_pos (by omega), if_pos m1.1, l2, if_neg (by omega)]
      rw [Wb0, W (b0 - 192) (by omega) (by omega), W ((b0 - 192) * 64) (by omega) (by omega), Wb1, W ((b0 - 192) * 64 + b1) (by omega) (by omega), W _ (by omega) (by omega)]
    · rw [if_neg (fun h => m1 h.2), oneI_0 _ _ _ _ _ c0 (fun h => m1 h.2.2) (fun h => by have := h.1; omega) (fun h => by have := h.1; omega)]
      simp only [Option.bind_some]
      rw [if_pos hs, if_neg (by omega), stray]
  by_cases c3 : 224 ≤ b0 ∧ b0 ≤ 239
  · have hz : szI b0 = 3 := by unfold szI; rw [if_neg c0, if_neg c2, if_pos c3]
    rw [hz] at e2 e3 ⊢
    rw [if_neg (fun h => by have := h.1; omega)] at e3
    by_cases m1 : 1 < (s.size : Int) ∧ mayP b0 b1 1
    · rw [if_pos ⟨by omega, m1⟩, e2]
      by_cases m2 : 2 < (s.size : Int) ∧ mayP b0 b2 2
      · rw [if_pos ⟨by omega, m2⟩, e3, oneI_3 _ _ _ _ _ ⟨c3.1, c3.2, m2.1, m1.2, m2.2⟩]
        have := m1.2.1; have := m1.2.2.1; have := m2.2.1; have := m2.2.2.1
        simp only [Option.bind_some]
        rw [if_pos hs, if_pos trivial, if_neg (by omega), j0, if_neg (by omega), if_pos rfl, l1, if_pos (by omega), if_pos m1.1, l2, if_pos (by omega), if_pos m2.1, l3, if_neg (by omega)]
        rw [Wb0, W (b0 - 224) (by omega) (by omega), W ((b0 - 224) * 64) (by omega) (by omega), Wb1, W ((b0 - 224) * 64 + b1) (by omega) (by omega), W ((b0 - 224) * 64 + b1 - 128) (by omega) (by omega), W (((b0 - 224) * 64 + b1 - 128) * 64) (by omega) (by omega), Wb2, W (((b0 - 224) * 64 + b1 - 128) * 64 + b2) (by omega) (by omega), W _ (by omega) (by omega)]
      · rw [if_neg (fun h => m2 h.2), oneI_0 _ _ _ _ _ c0 (fun h => c2 ⟨h.1, h.2.1⟩) (fun h => m2 ⟨h.2.2.1, h.2.2.2.2⟩) (fun h => by have := h.1; omega)]
        simp only [Option.bind_some]
        rw [if_pos hs, if_neg (by omega), stray]
    · rw [if_neg (fun h => m1 h.2), oneI_0 _ _ _ _ _ c0 (fun h => c2 ⟨h.1, h.2.1⟩) (fun h => m1 ⟨by have := h.2.2.1; omega, h.2.2.2.1⟩) (fun h => by have := h.1; omega)]
      simp only [Option.bind_some]
      rw [if_pos hs, if_neg (by omega), stray]
  by_cases c4 : 240 ≤ b0 ∧ b0 ≤ 244
  · have hz : szI b0 = 4 := by unfold szI; rw [if_neg c0, if_neg c2, if_neg c3, if_pos c4]
    rw [hz] at e2 e3 ⊢
    by_cases m1 : 1 < (s.size : Int) ∧ mayP b0 b1 1
    · rw [if_pos ⟨by omega, m1⟩, e2]
      by_cases m2 : 2 < (s.size : Int) ∧ mayP b0 b2 2
      · rw [if_pos ⟨by omega, m2⟩, e3]
        by_cases m3 : 3 < (s.size : Int) ∧ mayP b0 b3 3
        · rw [if_pos ⟨by omega, m3⟩, e4, oneI_4 _ _ _ _ _ ⟨c4.1, c4.2, m3.1, m1.2, m2.2, m3.2⟩]
          have := m1.2.1; have := m1.2.2.1; have := m2.2.1; have := m2.2.2.1; have := m3.2.1; have := m3.2.2.1
          simp only [Option.bind_some]
          rw [if_pos hs, if_pos trivial, if_neg (by omega), j0, if_pos rfl, if_neg (by omega), l1, if_pos (by omega), if_pos m1.1, l2, if_pos (by omega), if_pos m2.1, l3, if_pos (by omega), if_pos m3.1, l4 _ _ (by omega)]
          rw [Wb0, W (b0 - 240) (by omega) (by omega), W ((b0 - 240) * 64) (by omega) (by omega), Wb1, W ((b0 - 240) * 64 + b1) (by omega) (by omega), W ((b0 - 240) * 64 + b1 - 128) (by omega) (by omega), W (((b0 - 240) * 64 + b1 - 128) * 64) (by omega) (by omega), Wb2, W (((b0 - 240) * 64 + b1 - 128) * 64 + b2) (by omega) (by omega), W (((b0 - 240) * 64 + b1 - 128) * 64 + b2 - 128) (by omega) (by omega), W ((((b0 - 240) * 64 + b1 - 128) * 64 + b2 - 128) * 64) (by omega) (by omega), Wb3, W ((((b0 - 240) * 64 + b1 - 128) * 64 + b2 - 128) * 64 + b3) (by omega) (by omega), W _ (by omega) (by omega)]
        · rw [if_neg (fun h => m3 h.2), oneI_0 _ _ _ _ _ c0 (fun h => c2 ⟨h.1, h.2.1⟩) (fun h => c3 ⟨h.1, h.2.1⟩) (fun h => m3 ⟨h.2.2.1, h.2.2.2.2.2⟩)]
          simp only [Option.bind_some]
          rw [if_pos hs, if_neg (by omega), stray]
      · rw [if_neg (fun h => m2 h.2), oneI_0 _ _ _ _ _ c0 (fun h => c2 ⟨h.1, h.2.1⟩) (fun h => c3 ⟨h.1, h.2.1⟩) (fun h => m2 ⟨by have := h.2.2.1; omega, h.2.2.2.2.1⟩)]
        simp only [Option.bind_some]
        rw [if_pos hs, if_neg (by omega), stray]
    · rw [if_neg (fun h => m1 h.2), oneI_0 _ _ _ _ _ c0 (fun h => c2 ⟨h.1, h.2.1⟩) (fun h => c3 ⟨h.1, h.2.1⟩) (fun h => m1 ⟨by have := h.2.2.1; omega, h.2.2.2.1⟩)]
      simp only [Option.bind_some]
      rw [if_pos hs, if_neg (by omega), stray]
  · have hz : szI b0 = 0 := by unfold szI; rw [if_neg c0, if_neg c2, if_neg c3, if_neg c4]
    rw [hz, if_neg (fun h => by have := h.1; omega), oneI_0 _ _ _ _ _ c0 (fun h => c2 ⟨h.1, h.2.1⟩) (fun h => c3 ⟨h.1, h.2.1⟩) (fun h => c4 ⟨h.1, h.2.1⟩)]
    simp only [Option.bind_some]
    rw [if_pos hs, if_neg (by omega), stray]
end Go.Proofs.Ytpkmoonfnbcphaa.Q
