/- Plain facts: the values of a text as one list, told by the program and by the reference; what it says of two texts, one behind the other. -/
import Derived.Test.YtpkmoonfnbcphaaPAllx6
import Derived.Test.YtpkmoonfnbcphaaPAllx3
import Derived.Test.YtpkmoonfnbcphaaQBytes
import Derived.Test.YtpkmoonfnbcphaaQUtf
set_option linter.unusedVariables false
set_option linter.unusedSimpArgs false
namespace Go.Proofs.Ytpkmoonfnbcphaa.Q
open Go.RowKit Go.Proofs.Ytpkmoonfnbcphaa.PAll Go.Proofs.YtpkmoonfnbcphaaW.PrintWords Go.Proofs.YtpkmoonfnbcphaaW.PrintLast Go.Proofs.YtpkmoonfnbcphaaW.PrintMore
/-- The first value of bytes, and its width. -/
def one (l : List UInt8) : Int × Nat := ((oneI l.length (g l 0) (g l 1) (g l 2) (g l 3)).1, (oneI l.length (g l 0) (g l 1) (g l 2) (g l 3)).2.toNat)
theorem one_width (l : List UInt8) (h : l ≠ []) : 1 ≤ (one l).2 ∧ (one l).2 ≤ l.length ∧ (one l).2 ≤ 4 := by
  have hl : 0 < l.length := List.length_pos_iff.mpr h
  unfold one oneI
  repeat' split
  all_goals (rename_i hq; first | (have := hq.2.2.1; simp; omega) | (simp; omega))
def decN (n a0 a1 a2 a3 : Nat) : Nat × Nat :=
  if a0 < 128 then (a0, 1)
  else if a0 / 32 = 6 ∧ 1 < n ∧ a1 / 64 = 2 then (if a0 % 32 * 64 + a1 % 64 ≥ 128 then (a0 % 32 * 64 + a1 % 64, 2) else (65533, 1))
  else if a0 / 16 = 14 ∧ (1 < n ∧ a1 / 64 = 2) ∧ 2 < n ∧ a2 / 64 = 2 then (if a0 % 16 * 4096 + a1 % 64 * 64 + a2 % 64 ≥ 2048 ∧ Utf8.valid ((a0 % 16 * 4096 + a1 % 64 * 64 + a2 % 64 : Nat) : Int) = true then (a0 % 16 * 4096 + a1 % 64 * 64 + a2 % 64, 3) else (65533, 1))
  else if a0 / 8 = 30 ∧ ((1 < n ∧ a1 / 64 = 2) ∧ 2 < n ∧ a2 / 64 = 2) ∧ 3 < n ∧ a3 / 64 = 2 then (if a0 % 8 * 262144 + a1 % 64 * 4096 + a2 % 64 * 64 + a3 % 64 ≥ 65536 ∧ Utf8.valid ((a0 % 8 * 262144 + a1 % 64 * 4096 + a2 % 64 * 64 + a3 % 64 : Nat) : Int) = true then (a0 % 8 * 262144 + a1 % 64 * 4096 + a2 % 64 * 64 + a3 % 64, 4) else (65533, 1))
  else (65533, 1)
theorem decode_decN (s : ByteArray) (p : Nat) : Utf8.decode s p = decN (s.size - p) (s.get! p).toNat (s.get! (p + 1)).toNat (s.get! (p + 2)).toNat (s.get! (p + 3)).toNat := by
  have c1 : p + 1 < s.size ↔ 1 < s.size - p := by omega
  have c2 : p + 2 < s.size ↔ 2 < s.size - p := by omega
  have c3 : p + 3 < s.size ↔ 3 < s.size - p := by omega
  unfold Utf8.decode decN
  simp only [Nat.add_zero, Bool.and_eq_true, decide_eq_true_eq, beq_iff_eq, c1, c2, c3, Utf8.runeError, and_assoc]
/-- What the program makes of what the machine reads. -/
def fixN (n a0 a1 a2 : Nat) (r : Nat × Nat) : Int × Nat := if r.1 = 65533 ∧ ¬ (2 < n ∧ a0 = 239 ∧ a1 = 191 ∧ a2 = 189) then (1114112 + (a0 : Int), r.2) else ((r.1 : Int), r.2)
theorem valid_iff (c : Nat) : Utf8.valid (c : Int) = true ↔ c < 55296 ∨ (57344 ≤ c ∧ c ≤ 1114111) := by
  unfold Utf8.valid
  simp only [Bool.or_eq_true, Bool.and_eq_true, decide_eq_true_eq]
  omega
theorem fix_one (n a0 a1 a2 a3 : Nat) (h0 : a0 < 256) (h1 : a1 < 256) (h2 : a2 < 256) (h3 : a3 < 256) : fixN n a0 a1 a2 (decN n a0 a1 a2 a3) = ((oneI n a0 a1 a2 a3).1, (oneI n a0 a1 a2 a3).2.toNat) := by
  by_cases c0 : a0 < 128
  · rw [oneI_1 _ _ _ _ _ (by omega)]
    unfold decN
    rw [if_pos c0]
    unfold fixN
    rw [if_neg (fun h => by have := h.1; simp at this; omega)]
    rfl
  by_cases c2 : 194 ≤ a0 ∧ a0 ≤ 223 ∧ 1 < n ∧ 128 ≤ a1 ∧ a1 ≤ 191
  · rw [oneI_2 _ _ _ _ _ ⟨by omega, by omega, by omega, by unfold mayP; omega⟩]
    unfold decN
    rw [if_neg c0, if_pos (by omega), if_pos (by omega)]
    unfold fixN
    rw [if_neg (fun h => by have := h.1; simp at this; omega)]
    simp only [Prod.mk.injEq]
    refine ⟨by omega, rfl⟩
  by_cases c3 : 224 ≤ a0 ∧ a0 ≤ 239 ∧ 2 < n ∧ 128 ≤ a1 ∧ a1 ≤ 191 ∧ 128 ≤ a2 ∧ a2 ≤ 191 ∧ ¬ (a0 = 224 ∧ a1 < 160) ∧ ¬ (a0 = 237 ∧ 159 < a1)
  · rw [oneI_3 _ _ _ _ _ ⟨by omega, by omega, by omega, by unfold mayP; omega, by unfold mayP; omega⟩]
    unfold decN
    rw [if_neg c0, if_neg (by omega), if_pos (by omega), if_pos (by rw [valid_iff]; omega)]
    unfold fixN
    rw [if_neg (fun h => by have h1 := h.1; have h2 := h.2; simp only at h1; omega)]
    simp only [Prod.mk.injEq]
    refine ⟨by omega, rfl⟩
  by_cases c4 : 240 ≤ a0 ∧ a0 ≤ 244 ∧ 3 < n ∧ 128 ≤ a1 ∧ a1 ≤ 191 ∧ 128 ≤ a2 ∧ a2 ≤ 191 ∧ 128 ≤ a3 ∧ a3 ≤ 191 ∧ ¬ (a0 = 240 ∧ a1 < 144) ∧ ¬ (a0 = 244 ∧ 143 < a1)
  · rw [oneI_4 _ _ _ _ _ ⟨by omega, by omega, by omega, by unfold mayP; omega, by unfold mayP; omega, by unfold mayP; omega⟩]
    unfold decN
    rw [if_neg c0, if_neg (by omega), if_neg (by omega), if_pos (by omega), if_pos (by rw [valid_iff]; omega)]
    unfold fixN
    rw [if_neg (fun h => by have := h.1; simp only at this; omega)]
    simp only [Prod.mk.injEq]
    refine ⟨by omega, rfl⟩
  have k2 : ¬ (194 ≤ (a0 : Int) ∧ (a0 : Int) ≤ 223 ∧ 1 < (n : Int) ∧ mayP a0 a1 1) := by
    rintro ⟨q1, q2, q3, q4, q5, q6⟩
    exact c2 ⟨by omega, by omega, by omega, by omega, by omega⟩
  have k3 : ¬ (224 ≤ (a0 : Int) ∧ (a0 : Int) ≤ 239 ∧ 2 < (n : Int) ∧ mayP a0 a1 1 ∧ mayP a0 a2 2) := by
    rintro ⟨q1, q2, q3, ⟨q4, q5, q6⟩, q7, q8, q9⟩
    have q6' := q6.resolve_left (by omega)
    exact c3 ⟨by omega, by omega, by omega, by omega, by omega, by omega, by omega, fun h => q6'.1 ⟨by omega, by omega⟩, fun h => q6'.2.1 ⟨by omega, by omega⟩⟩
  have k4 : ¬ (240 ≤ (a0 : Int) ∧ (a0 : Int) ≤ 244 ∧ 3 < (n : Int) ∧ mayP a0 a1 1 ∧ mayP a0 a2 2 ∧ mayP a0 a3 3) := by
    rintro ⟨q1, q2, q3, ⟨q4, q5, q6⟩, ⟨q7, q8, q9⟩, q10, q11, q12⟩
    have q6' := q6.resolve_left (by omega)
    exact c4 ⟨by omega, by omega, by omega, by omega, by omega, by omega, by omega, by omega, by omega, fun h => q6'.2.2.1 ⟨by omega, by omega⟩, fun h => q6'.2.2.2 ⟨by omega, by omega⟩⟩
  have hs : decN n a0 a1 a2 a3 = (65533, 1) := by
    unfold decN
    rw [if_neg c0]
    by_cases d2 : a0 / 32 = 6 ∧ 1 < n ∧ a1 / 64 = 2
    · have : a0 = 192 ∨ a0 = 193 := by
        obtain ⟨z1, z2, z3⟩ := d2
        by_cases z : 194 ≤ a0
        · exact absurd ⟨z, by omega, z2, by omega, by omega⟩ c2
        · omega
      rw [if_pos d2, if_neg (by clear c2 c3 c4 k2 k3 k4; omega)]
    rw [if_neg d2]
    by_cases d3 : a0 / 16 = 14 ∧ (1 < n ∧ a1 / 64 = 2) ∧ 2 < n ∧ a2 / 64 = 2
    · have : (a0 = 224 ∧ a1 < 160) ∨ (a0 = 237 ∧ 159 < a1) := by
        obtain ⟨z1, ⟨z2, z3⟩, z4, z5⟩ := d3
        by_cases x : a0 = 224 ∧ a1 < 160
        · exact .inl x
        · by_cases y : a0 = 237 ∧ 159 < a1
          · exact .inr y
          · exact absurd ⟨by omega, by omega, z4, by omega, by omega, by omega, by omega, x, y⟩ c3
      rw [if_pos d3, if_neg (by rw [valid_iff]; clear c2 c3 c4 k2 k3 k4; omega)]
    rw [if_neg d3]
    by_cases d4 : a0 / 8 = 30 ∧ ((1 < n ∧ a1 / 64 = 2) ∧ 2 < n ∧ a2 / 64 = 2) ∧ 3 < n ∧ a3 / 64 = 2
    · have : (a0 = 240 ∧ a1 < 144) ∨ (a0 = 244 ∧ 143 < a1) ∨ 244 < a0 := by
        obtain ⟨z1, ⟨⟨z2, z3⟩, z4, z5⟩, z6, z7⟩ := d4
        by_cases x : a0 = 240 ∧ a1 < 144
        · exact .inl x
        · by_cases y : a0 = 244 ∧ 143 < a1
          · exact .inr (.inl y)
          · by_cases z : 244 < a0
            · exact .inr (.inr z)
            · exact absurd ⟨by omega, by omega, z6, by omega, by omega, by omega, by omega, by omega, by omega, x, y⟩ c4
      rw [if_pos d4, if_neg (by rw [valid_iff]; clear c2 c3 c4 k2 k3 k4; omega)]
    rw [if_neg d4]
  rw [hs, oneI_0 _ _ _ _ _ (by clear c2 c3 c4 k2 k3 k4; omega) k2 k3 k4]
  unfold fixN
  rw [if_pos ⟨rfl, fun h => c3 ⟨by omega, by omega, h.1, by omega, by omega, by omega, by omega, by omega, by omega⟩⟩]
  rfl
theorem prefix3 (l : List UInt8) : ((L (⟨#[239, 191, 189]⟩ : ByteArray)).isPrefixOf l = true) ↔ (2 < l.length ∧ g l 0 = 239 ∧ g l 1 = 191 ∧ g l 2 = 189) := by
  match l with
  | [] => exact ⟨fun h => absurd h (by simp [L, List.isPrefixOf]), fun h => absurd h.1 (by simp)⟩
  | [a] => exact ⟨fun h => absurd h (by simp [L, List.isPrefixOf]), fun h => absurd h.1 (by simp)⟩
  | [a, b] => exact ⟨fun h => absurd h (by simp [L, List.isPrefixOf]), fun h => absurd h.1 (by simp)⟩
  | a :: b :: c :: r =>
    show (((239 : UInt8) == a && ((191 : UInt8) == b && ((189 : UInt8) == c && true))) = true) ↔ _
    simp only [Bool.and_eq_true, beq_iff_eq, Bool.and_true]
    constructor
    · rintro ⟨rfl, rfl, rfl⟩
      exact ⟨by simp only [List.length_cons]; omega, rfl, rfl, rfl⟩
    · rintro ⟨-, h1, h2, h3⟩
      exact ⟨(g_inj (y := 239) h1).symm, (g_inj (y := 191) h2).symm, (g_inj (y := 189) h3).symm⟩
theorem value_fix (s' : ByteArray) (d : Nat × Nat) (n a0 a1 a2 : Nat) (hle : d.1 ≤ 2147483647) (hs : 0 < s'.size) (hb : bt s' 0 = (a0 : Int)) (hb0 : a0 < 256) (hpre : ((L (⟨#[239, 191, 189]⟩ : ByteArray)).isPrefixOf (L s') = true) ↔ (2 < n ∧ a0 = 239 ∧ a1 = 191 ∧ a2 = 189)) : ((utf_value.f s' (d.1 : Int)).getD 0, d.2) = fixN n a0 a1 a2 d := by
  unfold utf_value.f fixN
  rw [hasPrefix_eq]
  simp only [Option.bind_some]
  have hw : wrap64 (d.1 : Int) = (d.1 : Int) := by unfold wrap64; omega
  by_cases c : d.1 = 65533
  · have c' : (d.1 : Int) = 65533 := by omega
    rw [if_pos c']
    by_cases e : (L (⟨#[239, 191, 189]⟩ : ByteArray)).isPrefixOf (L s') = true
    · rw [if_pos e, if_neg (fun h => h.2 (hpre.mp e)), hw, Option.getD_some]
    · have h1 : wrap64 (a0 : Int) = (a0 : Int) := by unfold wrap64; omega
      have h2 : wrap64 (1114112 + (a0 : Int)) = 1114112 + (a0 : Int) := by unfold wrap64; omega
      rw [if_neg e, if_pos (show (0 : Int) < (s'.size : Int) by omega), if_pos ⟨c, fun h => e (hpre.mpr h)⟩, hb, h1, h2, Option.getD_some]
  · have c' : ¬ (d.1 : Int) = 65533 := by omega
    rw [if_neg c', if_neg (fun h => c h.1), hw, Option.getD_some]
theorem decode_one (s : ByteArray) (p : Nat) (hp : p < s.size) : utf_Decode.v s p = (one ((L s).drop p)).1 ∧ (Utf8.decode s p).2 = (one ((L s).drop p)).2 := by
  have hn : ((L s).drop p).length = s.size - p := by rw [List.length_drop]; rfl
  have hx : L (s.extract p s.size) = (L s).drop p := by
    rw [L_ext, List.take_of_length_le (by rw [hn]; exact Nat.le_refl _)]
  have e0 : ((s.get! p).toNat : Int) = g ((L s).drop p) 0 := by rw [get!_g, g_drop]; rfl
  have e1 : ((s.get! (p + 1)).toNat : Int) = g ((L s).drop p) 1 := by rw [get!_g, g_drop]
  have e2 : ((s.get! (p + 2)).toNat : Int) = g ((L s).drop p) 2 := by rw [get!_g, g_drop]
  have e3 : ((s.get! (p + 3)).toNat : Int) = g ((L s).drop p) 3 := by rw [get!_g, g_drop]
  have l0 : (s.get! p).toNat < 256 := UInt8.toNat_lt _
  have l1 : (s.get! (p + 1)).toNat < 256 := UInt8.toNat_lt _
  have l2 : (s.get! (p + 2)).toNat < 256 := UInt8.toNat_lt _
  have l3 : (s.get! (p + 3)).toNat < 256 := UInt8.toNat_lt _
  have hf := fix_one (s.size - p) _ _ _ _ l0 l1 l2 l3
  have hd := decode_decN s p
  have hb : bt (s.extract p s.size) 0 = ((s.get! p).toNat : Int) := by rw [bt_g, hx, e0]; rfl
  have hpre : ((L (⟨#[239, 191, 189]⟩ : ByteArray)).isPrefixOf (L (s.extract p s.size)) = true) ↔ (2 < s.size - p ∧ (s.get! p).toNat = 239 ∧ (s.get! (p + 1)).toNat = 191 ∧ (s.get! (p + 2)).toNat = 189) := by
    rw [hx, prefix3, hn, ← e0, ← e1, ← e2]
    constructor
    · rintro ⟨h1, h2, h3, h4⟩
      exact ⟨h1, by omega, by omega, by omega⟩
    · rintro ⟨h1, h2, h3, h4⟩
      exact ⟨h1, by omega, by omega, by omega⟩
  have hv := value_fix (s.extract p s.size) (Utf8.decode s p) (s.size - p) _ (s.get! (p + 1)).toNat (s.get! (p + 2)).toNat (decode_le s p) (by rw [ByteArray.size_extract]; omega) hb l0 hpre
  have key : (utf_Decode.v s p, (Utf8.decode s p).2) = one ((L s).drop p) := by
    refine hv.trans ?_
    rw [hd, hf]
    unfold one
    rw [hn, ← e0, ← e1, ← e2, ← e3]
  have k2 := Prod.ext_iff.mp key
  simp only at k2
  exact k2

def valsF : Nat → List UInt8 → List Int
  | 0, _ => []
  | n + 1, l => if l = [] then [] else (one l).1 :: valsF n (l.drop (one l).2)
/-- The values of bytes. -/
def vals (l : List UInt8) : List Int := valsF l.length l
theorem valsF_more (n : Nat) : ∀ (m : Nat) (l : List UInt8), l.length ≤ n → l.length ≤ m → valsF n l = valsF m l := by
  induction n with
  | zero =>
    intro m l hn hm
    have : l = [] := List.eq_nil_of_length_eq_zero (by omega)
    subst this
    cases m <;> simp [valsF]
  | succ n ih =>
    intro m l hn hm
    by_cases h : l = []
    · subst h
      cases m <;> simp [valsF]
    · have w := one_width l h
      cases m with
      | zero => exact absurd (List.eq_nil_of_length_eq_zero (by omega)) h
      | succ m =>
        simp only [valsF, if_neg h]
        rw [ih m _ (by rw [List.length_drop]; omega) (by rw [List.length_drop]; omega)]
theorem vals_nil : vals [] = [] := rfl
theorem vals_cons (l : List UInt8) (h : l ≠ []) : vals l = (one l).1 :: vals (l.drop (one l).2) := by
  have w := one_width l h
  have hl : 0 < l.length := List.length_pos_iff.mpr h
  unfold vals
  obtain ⟨n, hn⟩ : ∃ n, l.length = n + 1 := ⟨l.length - 1, by omega⟩
  rw [hn]
  simp only [valsF, if_neg h]
  rw [valsF_more n ((l.drop (one l).2).length) _ (by rw [List.length_drop]; omega) (Nat.le_refl _)]
theorem prog_dec_l (s : ByteArray) : ∀ (n p : Nat), s.size - p ≤ n → utf_Decode.l n s p = vals ((L s).drop p) := by
  intro n
  induction n with
  | zero =>
    intro p hp
    rw [List.drop_eq_nil_of_le (by have : (L s).length = s.size := rfl; omega)]
    rfl
  | succ n ih =>
    intro p hp
    have hl : (L s).length = s.size := rfl
    by_cases h : p < s.size
    · have hne : (L s).drop p ≠ [] := by
        intro e
        have := congrArg List.length e
        rw [List.length_drop] at this
        simp at this
        omega
      obtain ⟨h1, h2⟩ := decode_one s p h
      have w := one_width _ hne
      simp only [utf_Decode.l, if_pos h]
      rw [vals_cons _ hne, h1, h2, ih _ (by omega), List.drop_drop]
    · simp only [utf_Decode.l, if_neg h]
      rw [List.drop_eq_nil_of_le (by omega)]
      rfl
theorem prog_dec (s : ByteArray) (h : s.size < 17592186044416) : utf_Decode.f s = some (vals (L s)) := by
  unfold utf_Decode.f
  rw [if_pos h, prog_dec_l s s.size 0 (by omega), List.drop_zero]
theorem vals_len (l : List UInt8) : (vals l).length ≤ l.length := by
  have key : ∀ n (l : List UInt8), (valsF n l).length ≤ n := by
    intro n
    induction n with
    | zero => intro l; simp [valsF]
    | succ n ih =>
      intro l
      unfold valsF
      split
      · simp
      · rw [List.length_cons]
        have := ih (l.drop (one l).2)
        omega
  exact key _ _
theorem ref_one (k : Nat) (s : ByteArray) (hk : 20 ≤ k) (h0 : 0 < s.size) : dactylref02_One.f k s = some ((one (L s)).1, ((one (L s)).2 : Int)) := by
  rw [one_eq k s hk h0]
  unfold one
  simp only [bt_g]
  have : (L s).length = s.size := rfl
  rw [this]
  have w : 0 ≤ (oneI s.size (g (L s) 0) (g (L s) 1) (g (L s) 2) (g (L s) 3)).2 := by
    unfold oneI
    repeat' split
    all_goals simp
  show some (oneI s.size (g (L s) 0) (g (L s) 1) (g (L s) 2) (g (L s) 3)) = _
  rw [Int.toNat_of_nonneg w]
theorem ref_dec_l (n : Nat) : ∀ (k : Nat) (s : ByteArray) (acc : List Int), s.size ≤ n → n + 30 ≤ k → acc.length + n < 17592186044416 → dactylref02_Decode.l0 k s acc = some (acc ++ vals (L s)) := by
  induction n with
  | zero =>
    intro k s acc hs hk ha
    obtain ⟨k, rfl⟩ : ∃ m, k = m + 1 := ⟨k - 1, by omega⟩
    have e : L s = [] := List.eq_nil_of_length_eq_zero (by show s.size = 0; omega)
    simp only [dactylref02_Decode.l0]
    rw [if_neg (by omega), e, vals_nil, List.append_nil]
  | succ n ih =>
    intro k s acc hs hk ha
    obtain ⟨k, rfl⟩ : ∃ m, k = m + 1 := ⟨k - 1, by omega⟩
    by_cases h : 0 < s.size
    · have hne : L s ≠ [] := by
        intro e
        have h2 : (L s).length = s.size := rfl
        rw [e] at h2
        simp only [List.length_nil] at h2
        omega
      have w := one_width _ hne
      have h2 : (L s).length = s.size := rfl
      simp only [dactylref02_Decode.l0]
      rw [if_pos (by omega), ref_one k s (by omega) h]
      simp only [Option.bind_some]
      rw [if_pos (by omega), if_pos (by omega), if_pos (by omega), Int.toNat_natCast, ih k _ _ (by rw [ByteArray.size_extract]; omega) (by omega) (by rw [List.length_append, List.length_singleton]; omega), L_ext, vals_cons _ hne, List.take_of_length_le (by rw [List.length_drop]; omega), List.append_assoc, List.singleton_append]
    · have e : L s = [] := List.eq_nil_of_length_eq_zero (by show s.size = 0; omega)
      simp only [dactylref02_Decode.l0]
      rw [if_neg (by omega), e, vals_nil, List.append_nil]
theorem ref_dec (k : Nat) (s : ByteArray) (hs : s.size < 17592186044000) (hk : s.size + 30 ≤ k) : dactylref02_Decode.f k s = some (vals (L s)) := by
  unfold dactylref02_Decode.f
  rw [ref_dec_l s.size k s [] (Nat.le_refl _) hk (by simp; omega), List.nil_append]
/-- A byte that goes on with nothing. -/
def Fresh (l : List UInt8) : Prop := l = [] ∨ g l 0 < 128 ∨ 191 < g l 0
theorem one_app (a b : List UInt8) (ha : a ≠ []) (hb : Fresh b) : one (a ++ b) = one a := by
  have hl : 0 < a.length := List.length_pos_iff.mpr ha
  have h0 : g (a ++ b) 0 = g a 0 := g_app_left a b 0 hl
  have hcont : ∀ i f, a.length ≤ i → i ≤ 3 → (∀ j, a.length ≤ j → j < i → 128 ≤ g (a ++ b) j ∧ g (a ++ b) j ≤ 191) → ¬ ((i : Int) < ((a ++ b).length : Int) ∧ mayP f (g (a ++ b) i) i) := by
    intro i f h1 h2 h3 ⟨h4, h5⟩
    have hbl : b ≠ [] := by
      rintro rfl
      rw [List.append_nil] at h4
      omega
    rcases Nat.eq_or_lt_of_le h1 with h6 | h6
    · have e : g (a ++ b) i = g b 0 := by rw [g_app_right a b i (by omega), show i - a.length = 0 by omega]
      rw [e] at h5
      have := h5.1
      have := h5.2.1
      rcases hb with hb | hb | hb
      · exact hbl hb
      · omega
      · omega
    · have e : g (a ++ b) a.length = g b 0 := by rw [g_app_right a b _ (Nat.le_refl _), Nat.sub_self]
      have h7 := h3 a.length (Nat.le_refl _) h6
      rw [e] at h7
      rcases hb with hb | hb | hb
      · exact hbl hb
      · omega
      · omega
  have key : oneI (a ++ b).length (g (a ++ b) 0) (g (a ++ b) 1) (g (a ++ b) 2) (g (a ++ b) 3) = oneI a.length (g a 0) (g a 1) (g a 2) (g a 3) := by
    rw [h0]
    have hlen : ((a ++ b).length : Int) = (a.length : Int) + (b.length : Int) := by rw [List.length_append]; omega
    generalize hx0 : g a 0 = b0 at *
    by_cases n1 : 1 < a.length
    · have e1 : g (a ++ b) 1 = g a 1 := g_app_left a b 1 n1
      rw [e1]
      by_cases n2 : 2 < a.length
      · have e2 : g (a ++ b) 2 = g a 2 := g_app_left a b 2 n2
        rw [e2]
        by_cases n3 : 3 < a.length
        · have e3 : g (a ++ b) 3 = g a 3 := g_app_left a b 3 n3
          rw [e3]
          unfold oneI
          have c1 : (1 : Int) < ((a ++ b).length : Int) ↔ 1 < (a.length : Int) := by omega
          have c2 : (2 : Int) < ((a ++ b).length : Int) ↔ 2 < (a.length : Int) := by omega
          have c3 : (3 : Int) < ((a ++ b).length : Int) ↔ 3 < (a.length : Int) := by omega
          simp only [c1, c2, c3]
        · have c1 : (1 : Int) < ((a ++ b).length : Int) ↔ 1 < (a.length : Int) := by omega
          have c2 : (2 : Int) < ((a ++ b).length : Int) ↔ 2 < (a.length : Int) := by omega
          have k3 : ¬ (240 ≤ b0 ∧ b0 ≤ 244 ∧ 3 < ((a ++ b).length : Int) ∧ mayP b0 (g a 1) 1 ∧ mayP b0 (g a 2) 2 ∧ mayP b0 (g (a ++ b) 3) 3) := fun h => hcont 3 b0 (by omega) (by omega) (fun j hj1 hj2 => by omega) ⟨h.2.2.1, h.2.2.2.2.2⟩
          have k3' : ¬ (240 ≤ b0 ∧ b0 ≤ 244 ∧ 3 < (a.length : Int) ∧ mayP b0 (g a 1) 1 ∧ mayP b0 (g a 2) 2 ∧ mayP b0 (g a 3) 3) := fun h => by have := h.2.2.1; omega
          unfold oneI
          rw [if_neg k3, if_neg k3']
          simp only [c1, c2]
      · have c1 : (1 : Int) < ((a ++ b).length : Int) ↔ 1 < (a.length : Int) := by omega
        have k2 : ∀ f, ¬ (2 < ((a ++ b).length : Int) ∧ mayP f (g (a ++ b) 2) 2) := fun f => hcont 2 f (by omega) (by omega) (fun j hj1 hj2 => by omega)
        have n2' : ¬ (2 : Int) < (a.length : Int) := by omega
        have n3' : ¬ (3 : Int) < (a.length : Int) := by omega
        unfold oneI
        rw [if_neg (fun h : 224 ≤ b0 ∧ b0 ≤ 239 ∧ 2 < ((a ++ b).length : Int) ∧ mayP b0 (g a 1) 1 ∧ mayP b0 (g (a ++ b) 2) 2 => k2 b0 ⟨h.2.2.1, h.2.2.2.2⟩), if_neg (fun h : 240 ≤ b0 ∧ b0 ≤ 244 ∧ 3 < ((a ++ b).length : Int) ∧ mayP b0 (g a 1) 1 ∧ mayP b0 (g (a ++ b) 2) 2 ∧ mayP b0 (g (a ++ b) 3) 3 => k2 b0 ⟨by have := h.2.2.1; omega, h.2.2.2.2.1⟩), if_neg (fun h : 224 ≤ b0 ∧ b0 ≤ 239 ∧ 2 < (a.length : Int) ∧ mayP b0 (g a 1) 1 ∧ mayP b0 (g a 2) 2 => n2' h.2.2.1), if_neg (fun h : 240 ≤ b0 ∧ b0 ≤ 244 ∧ 3 < (a.length : Int) ∧ mayP b0 (g a 1) 1 ∧ mayP b0 (g a 2) 2 ∧ mayP b0 (g a 3) 3 => n3' h.2.2.1)]
        simp only [c1]
    · have k1 : ∀ f, ¬ (1 < ((a ++ b).length : Int) ∧ mayP f (g (a ++ b) 1) 1) := fun f => hcont 1 f (by omega) (by omega) (fun j hj1 hj2 => by omega)
      have n1' : ¬ (1 : Int) < (a.length : Int) := by omega
      by_cases c0 : b0 < 128
      · rw [oneI_1 _ _ _ _ _ c0, oneI_1 _ _ _ _ _ c0]
      · rw [oneI_0 _ _ _ _ _ c0 (fun h => k1 b0 ⟨h.2.2.1, h.2.2.2⟩) (fun h => k1 b0 ⟨by have := h.2.2.1; omega, h.2.2.2.1⟩) (fun h => k1 b0 ⟨by have := h.2.2.1; omega, h.2.2.2.1⟩)]
        rw [oneI_0 _ _ _ _ _ c0 (fun h => n1' h.2.2.1) (fun h => by have := h.2.2.1; omega) (fun h => by have := h.2.2.1; omega)]
  unfold one
  rw [key]
theorem vals_app (a b : List UInt8) (hb : Fresh b) : vals (a ++ b) = vals a ++ vals b := by
  have key : ∀ n (a : List UInt8), a.length ≤ n → vals (a ++ b) = vals a ++ vals b := by
    intro n
    induction n with
    | zero =>
      intro a ha
      have : a = [] := List.eq_nil_of_length_eq_zero (by omega)
      subst this
      rfl
    | succ n ih =>
      intro a ha
      by_cases h : a = []
      · subst h
        rfl
      · have w := one_width a h
        rw [vals_cons (a ++ b) (by simp [h]), vals_cons a h, one_app a b h hb, List.drop_append_of_le_length (by omega), ih _ (by rw [List.length_drop]; omega)]
        rfl
  exact key a.length a (Nat.le_refl _)
theorem vals_ascii (x : UInt8) (l : List UInt8) (h : x.toNat < 128) : vals (x :: l) = (x.toNat : Int) :: vals l := by
  have e : one (x :: l) = ((x.toNat : Int), 1) := by
    unfold one
    rw [oneI_1 _ _ _ _ _ (by rw [g_cons]; omega)]
    rfl
  rw [vals_cons _ (by simp), e]
  rfl
end Go.Proofs.Ytpkmoonfnbcphaa.Q
