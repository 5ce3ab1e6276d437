/- Plain facts on the letters of a value (esc): the program and the reference tell the same. -/
import Derived.Test.YtddkmhkglmcihaaDoorPAllx3
import Derived.Test.YtddkmhkglmcihaaDoorPAllx6
import Derived.Test.YtddkmhkglmcihaaDoorPAllx2
import Derived.Test.YtddkmhkglmcihaaDoorQBytes
import Derived.KernelRfl
set_option linter.unusedVariables false
set_option linter.unusedSimpArgs false
namespace Go.Proofs.YtddkmhkglmcihaaDoor.Q
open Go.RowKit Go.Proofs.YtddkmhkglmcihaaDoor.PAll Go.Proofs.YtddkmhkglmcihaaDoorW.PrintWords Go.Proofs.YtddkmhkglmcihaaDoorW.PrintLast Go.Proofs.YtddkmhkglmcihaaDoorW.PrintMore
def hexd (n : Nat) : UInt8 := ([48, 49, 50, 51, 52, 53, 54, 55, 56, 57, 65, 66, 67, 68, 69, 70] : List UInt8).getD n 0
def hex6 (v : Nat) : List UInt8 := [hexd (v / 1048576 % 16), hexd (v / 65536 % 16), hexd (v / 4096 % 16), hexd (v / 256 % 16), hexd (v / 16 % 16), hexd (v % 16)]
/-- A value's letters. -/
def letS (v : Int) : List UInt8 := if v = 92 then [92, 92] else if 32 ≤ v ∧ v ≤ 126 then [v.toNat.toUInt8] else 92 :: 117 :: hex6 v.toNat
/-- May a value be? -/
def okV (v : Int) : Bool := decide ((0 ≤ v ∧ v < 55296) ∨ (57343 < v ∧ v ≤ 1114111) ∨ (1114240 ≤ v ∧ v ≤ 1114367))
theorem okV_range {v : Int} (h : okV v = true) : 0 ≤ v ∧ v ≤ 1114367 := by
  have := of_decide_eq_true h
  omega
theorem d_all : (List.range 16).all (fun n => decide (L (num_laid.d (n : Int)) = [hexd n]) && (match dactylref01_Digit.f (n : Int) with | some b => decide (L b = [hexd n]) | none => false)) = true := by decide +kernel
theorem d_fact (n : Int) (h0 : 0 ≤ n) (h1 : n < 16) : L (num_laid.d n) = [hexd n.toNat] ∧ ∃ b, dactylref01_Digit.f n = some b ∧ L b = [hexd n.toNat] := by
  obtain ⟨m, rfl⟩ := Int.eq_ofNat_of_zero_le h0
  have h := List.all_eq_true.mp d_all m (List.mem_range.mpr (by omega))
  rw [Bool.and_eq_true] at h
  refine ⟨of_decide_eq_true h.1, ?_⟩
  have h2 := h.2
  cases hq : dactylref01_Digit.f (m : Int) with
  | none => rw [hq] at h2; cases h2
  | some b => rw [hq] at h2; exact ⟨b, rfl, of_decide_eq_true h2⟩
theorem d_size1 (n : Int) (h0 : 0 ≤ n) (h1 : n < 16) : (num_laid.d n).size = 1 := by
  have h := (d_fact n h0 h1).1
  rw [← L_len, h]
  rfl
theorem laid_step (k : Nat) (u : Int) (s : ByteArray) (hs : (s.size : Int) < 6) : num_laid.l 16 6 (k + 1) u s = num_laid.l 16 6 k (u / 16) (num_laid.d (u % 16) ++ s) := by
  rw [num_laid.l, if_pos hs]
  split <;> rfl
set_option maxHeartbeats 2000000 in
theorem laid_6 (v : Int) (h0 : 0 ≤ v) (h1 : v < 16777216) : ∃ b, num_laid.l 16 6 64 v ⟨#[]⟩ = some b ∧ L b = hex6 v.toNat := by
  have e0 : (⟨#[]⟩ : ByteArray).size = 0 := rfl
  have s1 := d_size1 (v % 16) (by omega) (by omega)
  have s2 := d_size1 (v / 16 % 16) (by omega) (by omega)
  have s3 := d_size1 (v / 16 / 16 % 16) (by omega) (by omega)
  have s4 := d_size1 (v / 16 / 16 / 16 % 16) (by omega) (by omega)
  have s5 := d_size1 (v / 16 / 16 / 16 / 16 % 16) (by omega) (by omega)
  have s6 := d_size1 (v / 16 / 16 / 16 / 16 / 16 % 16) (by omega) (by omega)
  rw [laid_step _ _ _ (by omega), laid_step _ _ _ (by rw [ByteArray.size_append]; omega), laid_step _ _ _ (by simp only [ByteArray.size_append]; omega), laid_step _ _ _ (by simp only [ByteArray.size_append]; omega), laid_step _ _ _ (by simp only [ByteArray.size_append]; omega), laid_step _ _ _ (by simp only [ByteArray.size_append]; omega), num_laid.l, if_neg (by omega), if_neg (by simp only [ByteArray.size_append]; omega)]
  refine ⟨_, rfl, ?_⟩
  simp only [L_app]
  rw [(d_fact (v % 16) (by omega) (by omega)).1, (d_fact (v / 16 % 16) (by omega) (by omega)).1, (d_fact (v / 16 / 16 % 16) (by omega) (by omega)).1, (d_fact (v / 16 / 16 / 16 % 16) (by omega) (by omega)).1, (d_fact (v / 16 / 16 / 16 / 16 % 16) (by omega) (by omega)).1, (d_fact (v / 16 / 16 / 16 / 16 / 16 % 16) (by omega) (by omega)).1]
  unfold hex6
  have e1 : (v % 16).toNat = v.toNat % 16 := by omega
  have e2 : (v / 16 % 16).toNat = v.toNat / 16 % 16 := by omega
  have e3 : (v / 16 / 16 % 16).toNat = v.toNat / 256 % 16 := by omega
  have e4 : (v / 16 / 16 / 16 % 16).toNat = v.toNat / 4096 % 16 := by omega
  have e5 : (v / 16 / 16 / 16 / 16 % 16).toNat = v.toNat / 65536 % 16 := by omega
  have e6 : (v / 16 / 16 / 16 / 16 / 16 % 16).toNat = v.toNat / 1048576 % 16 := by omega
  rw [e1, e2, e3, e4, e5, e6]
  rfl
theorem hex_prog (v : Int) (h0 : 0 ≤ v) (h1 : v < 16777216) : ∃ b, num_Hex.f v 6 = some b ∧ L b = hex6 v.toNat := by
  obtain ⟨b, h2, h3⟩ := laid_6 v h0 h1
  refine ⟨b, ?_, h3⟩
  unfold num_Hex.f
  rw [if_neg (by omega), if_pos (by omega), show num_Hex.w 6 = 6 from rfl, h2]
def hexN : Nat → Nat → List UInt8
  | 0, _ => []
  | j + 1, n => hexN j (n / 16) ++ [hexd (n % 16)]
theorem hexN_len : ∀ j n, (hexN j n).length = j
  | 0, _ => rfl
  | j + 1, n => by rw [hexN, List.length_append, hexN_len j]; rfl
theorem hexN6 (v : Nat) : hexN 6 v = hex6 v := by
  simp only [hexN, hex6, Nat.div_div_eq_div_mul, List.nil_append, List.cons_append, Nat.reduceMul]
theorem hex_ref : ∀ (j k : Nat) (n : Int), 0 ≤ n → n.toNat < 16 ^ (j + 1) → j ≤ 14 → 2 * j + 2 ≤ k → ∃ b, dactylref01_Hex.f k n ((j : Int) + 1) = some b ∧ L b = hexN (j + 1) n.toNat := by
  intro j
  induction j with
  | zero =>
    intro k n h0 h1 _ hk
    obtain ⟨k, rfl⟩ : ∃ m, k = m + 2 := ⟨k - 2, by omega⟩
    obtain ⟨b, h2, h3⟩ := (d_fact n h0 (by omega)).2
    refine ⟨b, ?_, ?_⟩
    · simp only [dactylref01_Hex.f, dactylref01_Hex.j0]
      rw [if_pos (by omega), if_pos (by simp), h2]
      rfl
    · rw [h3]
      simp only [hexN, List.nil_append]
      rw [Nat.mod_eq_of_lt (by omega)]
  | succ j ih =>
    intro k n h0 h1 hj hk
    obtain ⟨k, rfl⟩ : ∃ m, k = m + 2 := ⟨k - 2, by omega⟩
    have hp : (16 : Nat) ^ (j + 1 + 1) = 16 * 16 ^ (j + 1) := by rw [Nat.pow_succ, Nat.mul_comm]
    have hb : (16 : Nat) ^ (j + 1 + 1) ≤ 16 ^ 15 := Nat.pow_le_pow_right (by decide) (by omega)
    have e1 : wrap64 (Int.tdiv n 16) = n / 16 := by
      rw [Int.tdiv_eq_ediv_of_nonneg h0]
      unfold wrap64
      omega
    have e2 : wrap64 (((j + 1 : Nat) : Int) + 1 - 1) = (j : Int) + 1 := by
      unfold wrap64
      omega
    have e3 : Int.tmod n 16 = n % 16 := by rw [Int.tmod_eq_emod_of_nonneg h0]
    obtain ⟨b, h2, h3⟩ := ih k (n / 16) (by omega) (by rw [hp] at h1; omega) (by omega) (by omega)
    obtain ⟨c, h4, h5⟩ := (d_fact (n % 16) (by omega) (by omega)).2
    have hbs : b.size = j + 1 := by rw [← L_len, h3, hexN_len]
    have hcs : c.size = 1 := by rw [← L_len, h5]; rfl
    refine ⟨b ++ c, ?_, ?_⟩
    · have step : dactylref01_Hex.f (k + 2) n (((j + 1 : Nat) : Int) + 1) = dactylref01_Hex.j0 (k + 1) n (((j + 1 : Nat) : Int) + 1) false := by
        simp only [dactylref01_Hex.f]
        split
        · rw [decide_eq_false (by omega)]
        · rfl
      rw [step]
      simp only [dactylref01_Hex.j0, Bool.false_eq_true, if_false]
      rw [e1, e2, e3, h2, h4]
      simp only [Option.bind_some]
      rw [if_pos (by omega)]
    · rw [L_app, h3, h5, hexN, hexN, hexN, show (n / 16).toNat = n.toNat / 16 by omega, show (n % 16).toNat = n.toNat % 16 by omega]
theorem asc_all : (List.range 127).all (fun n => (decide (n < 32) || (match esc_letters.f 20 (n : Int) with | some b => decide (L b = letS (n : Int)) | none => false)) && (decide (n < 32) || (match dactylref22_Letters.f 20 (n : Int) with | some b => decide (L b = letS (n : Int)) | none => false))) = true := by decide +kernel
theorem letters_prog (k : Nat) (v : Int) (hv : okV v = true) (hk : 20 ≤ k) : ∃ b, esc_letters.f k v = some b ∧ L b = letS v := by
  have hr := okV_range hv
  by_cases c : 32 ≤ v ∧ v ≤ 126
  · obtain ⟨m, rfl⟩ := Int.eq_ofNat_of_zero_le hr.1
    have h := List.all_eq_true.mp asc_all m (List.mem_range.mpr (by omega))
    simp only [Bool.and_eq_true, Bool.or_eq_true, decide_eq_true_eq] at h
    rcases h.1 with h | h
    · omega
    · cases hq : esc_letters.f 20 (m : Int) with
      | none => rw [hq] at h; cases h
      | some b => rw [hq] at h; exact ⟨b, at_rounds (esc_letters.mono _) hk hq, of_decide_eq_true h⟩
  · obtain ⟨b, h2, h3⟩ := hex_prog v hr.1 (by omega)
    have hs : b.size = 6 := by rw [← L_len, h3]; rfl
    obtain ⟨k, rfl⟩ : ∃ m, k = m + 1 := ⟨k - 1, by omega⟩
    refine ⟨⟨#[92, 117]⟩ ++ b, ?_, ?_⟩
    · unfold esc_letters.f
      rw [if_neg (by omega)]
      have hj : esc_letters.j0 (k + 1) v false = some (⟨#[92, 117]⟩ ++ b) := by
        simp only [esc_letters.j0, Bool.false_eq_true, if_false]
        rw [h2]
        simp only [Option.bind_some]
        rw [if_pos (by omega)]
      by_cases c2 : v ≥ 32
      · rw [if_pos c2, decide_eq_false (by omega), hj]
      · rw [if_neg c2, hj]
    · rw [L_app, h3]
      unfold letS
      rw [if_neg (by omega), if_neg c]
      rfl
theorem letters_ref (k : Nat) (v : Int) (hv : okV v = true) (hk : 20 ≤ k) : ∃ b, dactylref22_Letters.f k v = some b ∧ L b = letS v := by
  have hr := okV_range hv
  by_cases c : 32 ≤ v ∧ v ≤ 126
  · obtain ⟨m, rfl⟩ := Int.eq_ofNat_of_zero_le hr.1
    have h := List.all_eq_true.mp asc_all m (List.mem_range.mpr (by omega))
    simp only [Bool.and_eq_true, Bool.or_eq_true, decide_eq_true_eq] at h
    rcases h.2 with h | h
    · omega
    · cases hq : dactylref22_Letters.f 20 (m : Int) with
      | none => rw [hq] at h; cases h
      | some b => rw [hq] at h; exact ⟨b, at_rounds (dactylref22_Letters.mono _) hk hq, of_decide_eq_true h⟩
  · obtain ⟨b, h2, h3⟩ := hex_ref 5 k v hr.1 (by omega) (by omega) (by omega)
    rw [hexN6] at h3
    have hs : b.size = 6 := by rw [← L_len, h3]; rfl
    have h2' : dactylref01_Hex.f k v 6 = some b := h2
    refine ⟨⟨#[92, 117]⟩ ++ b, ?_, ?_⟩
    · unfold dactylref22_Letters.f
      rw [if_neg (by omega), h2']
      simp only [Option.bind_some]
      rw [if_pos (show 2 + b.size ≤ 9223372036854775807 by omega)]
      split
      · rw [if_neg (by omega)]
      · rfl
    · rw [L_app, h3]
      unfold letS
      rw [if_neg (by omega), if_neg c]
      rfl
theorem hexd_all : (List.range 16).all (fun n => decide (32 ≤ (hexd n).toNat ∧ (hexd n).toNat ≤ 126 ∧ hexd n ≠ 92 ∧ Lib.indexByte [48, 49, 50, 51, 52, 53, 54, 55, 56, 57, 65, 66, 67, 68, 69, 70] (hexd n) = (n : Int))) = true := by decide +kernel
theorem hexd_fact (n : Nat) (h : n < 16) : 32 ≤ (hexd n).toNat ∧ (hexd n).toNat ≤ 126 ∧ hexd n ≠ 92 ∧ Lib.indexByte [48, 49, 50, 51, 52, 53, 54, 55, 56, 57, 65, 66, 67, 68, 69, 70] (hexd n) = (n : Int) :=
  of_decide_eq_true (List.all_eq_true.mp hexd_all n (List.mem_range.mpr h))
theorem hex6_bytes (v : Nat) : ∀ x ∈ hex6 v, 32 ≤ x.toNat ∧ x.toNat ≤ 126 := by
  intro x hx
  unfold hex6 at hx
  simp only [List.mem_cons, List.mem_nil_iff, or_false] at hx
  rcases hx with rfl | rfl | rfl | rfl | rfl | rfl <;> exact ⟨(hexd_fact _ (by omega)).1, (hexd_fact _ (by omega)).2.1⟩
theorem letS_bytes (v : Int) : ∀ x ∈ letS v, 32 ≤ x.toNat ∧ x.toNat ≤ 126 := by
  intro x hx
  unfold letS at hx
  split at hx
  · simp only [List.mem_cons, List.mem_nil_iff, or_false, or_self] at hx
    subst hx
    decide
  · split at hx
    · rename_i h
      simp only [List.mem_cons, List.mem_nil_iff, or_false] at hx
      subst hx
      have e : (v.toNat.toUInt8).toNat = v.toNat := by
        show (UInt8.ofNat v.toNat).toNat = _
        rw [UInt8.toNat_ofNat']
        omega
      rw [e]
      omega
    · simp only [List.mem_cons] at hx
      rcases hx with rfl | rfl | hx
      · decide
      · decide
      · exact hex6_bytes _ x hx
theorem letS_len (v : Int) : 1 ≤ (letS v).length ∧ (letS v).length ≤ 8 := by
  unfold letS
  split
  · decide
  · split
    · exact ⟨Nat.le_refl _, by show 1 ≤ 8; omega⟩
    · exact ⟨by show 1 ≤ 8; omega, by show 8 ≤ 8; omega⟩
end Go.Proofs.YtddkmhkglmcihaaDoor.Q
