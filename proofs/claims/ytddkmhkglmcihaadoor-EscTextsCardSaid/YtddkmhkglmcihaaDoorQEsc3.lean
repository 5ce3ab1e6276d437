/- Plain facts: a line of signs, told and read back (esc). -/
import Derived.Test.YtddkmhkglmcihaaDoorPAllx4
import Derived.Test.YtddkmhkglmcihaaDoorPAllx3
import Derived.Test.YtddkmhkglmcihaaDoorQBytes
import Derived.Test.YtddkmhkglmcihaaDoorQEsc1
import Derived.Test.YtddkmhkglmcihaaDoorQEsc2
set_option linter.unusedVariables false
set_option linter.unusedSimpArgs false
namespace Go.Proofs.YtddkmhkglmcihaaDoor.Q
open Go.RowKit Go.Proofs.YtddkmhkglmcihaaDoor.PAll Go.Proofs.YtddkmhkglmcihaaDoorW.PrintWords Go.Proofs.YtddkmhkglmcihaaDoorW.PrintLast Go.Proofs.YtddkmhkglmcihaaDoorW.PrintMore
theorem toU8 (c : UInt8) : ((c.toNat : Int)).toNat.toUInt8 = c := by
  show UInt8.ofNat ((c.toNat : Int)).toNat = c
  rw [Int.toNat_natCast, UInt8.ofNat_toNat]
theorem unhex_l (u : ByteArray) : ∀ (ds : List Nat) (k i : Nat) (x : Int), (∀ d ∈ ds, d < 16) → (L u).drop i = ds.map hexd → ds.length < k → i + ds.length = u.size → u.size ≤ 14 → 0 ≤ x → x < 16 ^ i → num_Unhex.l0 k u x (u.size : Int) (i : Int) = some (ds.foldl (fun (a : Int) (d : Nat) => 16 * a + (d : Int)) x, 0) := by
  intro ds
  induction ds with
  | nil =>
    intro k i x _ _ hk hi _ _ _
    obtain ⟨k, rfl⟩ : ∃ m, k = m + 1 := ⟨k - 1, by omega⟩
    simp only [List.length_nil] at hi
    simp only [num_Unhex.l0]
    rw [if_neg (by omega)]
    rfl
  | cons d ds ih =>
    intro k i x hd hl hk hi hs h0 h1
    obtain ⟨k, rfl⟩ : ∃ m, k = m + 1 := ⟨k - 1, by omega⟩
    simp only [List.length_cons] at hi hk
    have hd0 := hd d List.mem_cons_self
    have hb : bt u (i : Int) = ((hexd d).toNat : Int) := by
      rw [bt_g, Int.toNat_natCast]
      have := g_drop (L u) i 0
      rw [Nat.add_zero] at this
      rw [← this, hl]
      rfl
    have hp : (16 : Int) ^ (i + 1) = 16 * 16 ^ i := by rw [Int.pow_succ, Int.mul_comm]
    have hq : (16 : Int) ^ (i + 1) ≤ 16 ^ 15 := by
      have : (16 : Nat) ^ (i + 1) ≤ 16 ^ 15 := Nat.pow_le_pow_right (by decide) (by omega)
      exact_mod_cast this
    have e15 : (16 : Int) ^ 15 = 1152921504606846976 := by decide
    have e1 : wrap64 (wrap64 (16 * x) + (d : Int)) = 16 * x + d := by
      unfold wrap64
      omega
    simp only [num_Unhex.l0]
    rw [if_pos (by omega), if_pos (by omega), if_pos (by omega), hb]
    unfold strings_IndexByte.f
    simp only [Option.bind_some]
    rw [toU8]
    rw [show Lib.indexByte (⟨#[48, 49, 50, 51, 52, 53, 54, 55, 56, 57, 65, 66, 67, 68, 69, 70]⟩ : ByteArray).data.toList (hexd d) = (d : Int) from (hexd_fact d hd0).2.2.2, if_neg (by omega), e1, w64_succ i (by omega)]
    rw [ih k (i + 1) _ (fun z hz => hd z (List.mem_cons_of_mem _ hz)) (by rw [← List.drop_drop, hl]; rfl) (by omega) (by omega) hs (by omega) (by omega)]
    rfl
theorem unhex_6 (v : Nat) (hv : v < 16777216) (u : ByteArray) (hu : L u = hex6 v) (k : Nat) (hk : 20 ≤ k) : num_Unhex.f k u = some ((v : Int), 0) := by
  have hs : u.size = 6 := by rw [← L_len, hu]; rfl
  obtain ⟨k, rfl⟩ : ∃ m, k = m + 1 := ⟨k - 1, by omega⟩
  have h := unhex_l u [v / 1048576 % 16, v / 65536 % 16, v / 4096 % 16, v / 256 % 16, v / 16 % 16, v % 16] k 0 0 (by
    intro d hd
    simp only [List.mem_cons, List.mem_nil_iff, or_false] at hd
    rcases hd with rfl | rfl | rfl | rfl | rfl | rfl <;> exact Nat.mod_lt _ (by decide)) (by rw [List.drop_zero, hu]; rfl) (by simp only [List.length_cons, List.length_nil]; omega) (by rw [hs]; rfl) (by omega) (by omega) (by decide)
  unfold num_Unhex.f
  rw [if_neg (by rw [tl, hu]; exact fun h => by cases h), decide_eq_false (by omega)]
  simp only [num_Unhex.j0, Bool.false_eq_true, if_false]
  refine h.trans ?_
  simp only [List.foldl_cons, List.foldl_nil]
  congr 2
  omega
theorem one_asc (x : ByteArray) (c : UInt8) (r : List UInt8) (hx : L x = c :: r) (hc : c.toNat < 128) : utf_One.f x = some ((c.toNat : Int), 1) := by
  have hs : 0 < x.size := by rw [← L_len, hx]; exact Nat.succ_pos _
  have h0 : (x[0]'hs) = c := by
    have : (L x)[0]'(by rw [hx]; exact Nat.succ_pos _) = c := by simp only [hx]; rfl
    exact this
  have hd := decode_ascii x 0 hs (by rw [h0]; exact hc)
  unfold utf_One.f utf_One.v
  rw [if_neg (by omega), hd, h0]
  unfold utf_value.f
  rw [if_neg (by simp only; omega)]
  have : wrap64 (c.toNat : Int) = (c.toNat : Int) := by unfold wrap64; omega
  simp only [Option.getD_some, this]
  rfl
theorem esc_slash (x : ByteArray) (r : List UInt8) (hx : L x = 92 :: 92 :: r) (k : Nat) : esc_escaped.f k x = some (92, 2) := by
  unfold esc_escaped.f
  rw [hasPrefix_eq, hx]
  rfl
theorem esc_none (x : ByteArray) (c : UInt8) (r : List UInt8) (hx : L x = c :: r) (hc : c ≠ 92) (k : Nat) (hk : 1 ≤ k) : esc_escaped.f k x = some (0, 0) := by
  obtain ⟨k, rfl⟩ : ∃ m, k = m + 1 := ⟨k - 1, by omega⟩
  have e1 : (L (⟨#[92, 92]⟩ : ByteArray)).isPrefixOf (c :: r) = false := by
    show ((92 == c) && _) = false
    rw [beq_eq_false_iff_ne.mpr (Ne.symm hc)]
    rfl
  have e2 : (L (⟨#[92, 117]⟩ : ByteArray)).isPrefixOf (c :: r) = false := by
    show ((92 == c) && _) = false
    rw [beq_eq_false_iff_ne.mpr (Ne.symm hc)]
    rfl
  unfold esc_escaped.f
  rw [hasPrefix_eq, cutPrefix_eq, hx, e1, e2]
  rfl
theorem esc_code (x : ByteArray) (v : Int) (hv : okV v = true) (r : List UInt8) (hx : L x = 92 :: 117 :: (hex6 v.toNat ++ r)) (k : Nat) (hk : 21 ≤ k) : esc_escaped.f k x = some (v, 8) := by
  have hr := okV_range hv
  obtain ⟨k, rfl⟩ : ∃ m, k = m + 1 := ⟨k - 1, by omega⟩
  have hs : x.size = r.length + 8 := by rw [← L_len, hx]; simp [hex6]
  have e1 : (L (⟨#[92, 92]⟩ : ByteArray)).isPrefixOf (L x) = false := by rw [hx]; rfl
  have e2 : (L (⟨#[92, 117]⟩ : ByteArray)).isPrefixOf (L x) = true := by rw [hx]; rfl
  have e3 : L (x.extract 2 x.size) = hex6 v.toNat ++ r := by
    rw [L_ext, hx]
    simp only [List.drop_succ_cons, List.drop_zero]
    exact List.take_of_length_le (by simp [hex6]; omega)
  have s3 : (x.extract 2 x.size).size = r.length + 6 := by rw [← L_len, e3]; simp [hex6]
  have e4 : L ((x.extract 2 x.size).extract 0 6) = hex6 v.toNat := by
    rw [L_ext, e3]
    rfl
  unfold esc_escaped.f
  rw [hasPrefix_eq, cutPrefix_eq, e1, e2]
  simp only [Option.bind_some, Bool.false_eq_true, if_false, if_true]
  rw [show (⟨#[92, 117]⟩ : ByteArray).size = 2 from rfl, decide_eq_false (by omega)]
  simp only [esc_escaped.j0, Bool.false_eq_true, if_false]
  rw [if_pos (by omega), if_pos (by omega), unhex_6 v.toNat (by omega) _ e4 k (by omega)]
  simp only [Option.bind_some, if_true]
  rw [right_eq, Int.toNat_of_nonneg hr.1, hv]
  rfl
theorem w64_1 (p : Nat) (h : p ≤ 1000000) : wrap64 ((p : Int) + 1) = ((p + 1 : Nat) : Int) := by
  unfold wrap64
  omega
theorem w64_2 (p : Nat) (h : p ≤ 1000000) : wrap64 ((p : Int) + 2) = ((p + 2 : Nat) : Int) := by
  unfold wrap64
  omega
theorem w64_8 (p : Nat) (h : p ≤ 1000000) : wrap64 ((p : Int) + 8) = ((p + 8 : Nat) : Int) := by
  unfold wrap64
  omega
theorem unline_l (s : ByteArray) (most : Int) (k : Nat) (hk : 21 ≤ k) (hs : s.size ≤ 1000000) (ha : ∀ x ∈ L s, x.toNat < 128) : ∀ (n p past : Nat) (acc rest : List Sg), s.size < p + n → p ≤ past → past ≤ s.size → (L s).drop past = lineS rest → rest.all okS = true → ((acc.length + rest.length : Nat) : Int) ≤ most → acc.length ≤ p →
    esc_Unline.l k s most n p (past : Int) acc = some (acc ++ withS rest 3) := by
  intro n
  induction n with
  | zero => intro p past acc rest h0 h1 h2; omega
  | succ n ih =>
    intro p past acc rest h0 h1 h2 hl ho hm hc
    have hlen : (L s).length = s.size := rfl
    simp only [esc_Unline.l]
    by_cases c1 : p < s.size
    · have hb : (s[p]'c1).toNat < 128 := ha _ (List.getElem_mem (l := L s) (n := p) c1)
      have hd : (Utf8.decode s p).2 = 1 := by rw [decode_ascii s p c1 hb]
      rw [if_pos c1, hd]
      by_cases c2 : p < past
      · rw [if_pos (by omega)]
        exact ih (p + 1) past acc rest (by omega) (by omega) h2 hl ho hm (by omega)
      · have : p = past := by omega
        subst this
        rw [if_neg (by omega)]
        cases rest with
        | nil =>
          have := congrArg List.length hl
          rw [List.length_drop] at this
          simp [lineS] at this
          omega
        | cons x rest =>
          simp only [List.length_cons] at hm
          have hx : L (s.extract p s.size) = lineS (x :: rest) := by
            rw [L_ext, hl]
            exact List.take_of_length_le (by rw [← hl, List.length_drop]; exact Nat.le_refl _)
          rw [lineS_cons] at hx hl
          have ho1 : okS x = true ∧ rest.all okS = true := by simpa using ho
          have hov : okV x.f0 = true := by
            have := ho1.1
            unfold okS at this
            exact (Bool.and_eq_true _ _ ▸ this).1
          have hnext : (L s).drop (p + (letS x.f0).length) = lineS rest := by rw [← List.drop_drop, hl, List.drop_left]
          have hll := letS_len x.f0
          have hpl : p + (letS x.f0).length ≤ s.size := by
            have := congrArg List.length hl
            rw [List.length_drop, List.length_append] at this
            omega
          have go : esc_Unline.l k s most n (p + 1) ((p + (letS x.f0).length : Nat) : Int) (acc ++ [(⟨x.f0, 3⟩ : Sg)]) = some (acc ++ withS (x :: rest) 3) := by
            rw [ih (p + 1) (p + (letS x.f0).length) (acc ++ [(⟨x.f0, 3⟩ : Sg)]) rest (by omega) (by omega) hpl hnext ho1.2 (by rw [List.length_append, List.length_singleton]; omega) (by rw [List.length_append, List.length_singleton]; omega), List.append_assoc]
            rfl
          have hp6 : p ≤ 1000000 := Nat.le_trans (Nat.le_of_lt c1) hs
          have w1 := w64_1 p hp6
          have w2 := w64_2 p hp6
          have w8 := w64_8 p hp6
          have hacc : acc.length < 3518437208883 := Nat.lt_of_le_of_lt (Nat.le_trans hc hp6) (by decide)
          rw [if_neg (by omega)]
          by_cases v1 : x.f0 = 92
          · have hlet : letS x.f0 = [92, 92] := by rw [v1]; rfl
            rw [hlet] at hx go
            rw [esc_slash _ (lineS rest) hx k]
            simp only [Option.bind_some]
            rw [if_neg (by decide), if_pos hacc, w2, ← v1]
            exact go
          · by_cases v2 : 32 ≤ x.f0 ∧ x.f0 ≤ 126
            · have hlet : letS x.f0 = [x.f0.toNat.toUInt8] := by unfold letS; rw [if_neg v1, if_pos v2]
              rw [hlet] at hx go
              have ht : (x.f0.toNat.toUInt8).toNat = x.f0.toNat := by
                show (UInt8.ofNat x.f0.toNat).toNat = _
                rw [UInt8.toNat_ofNat']
                omega
              rw [esc_none _ _ (lineS rest) hx (fun h => by have := congrArg UInt8.toNat h; rw [ht] at this; have e : (92 : UInt8).toNat = 92 := rfl; omega) k (by omega)]
              simp only [Option.bind_some]
              rw [if_pos trivial, one_asc _ _ (lineS rest) hx (by rw [ht]; omega)]
              simp only [Option.bind_some]
              rw [if_pos hacc, w1, ht, Int.toNat_of_nonneg (by omega)]
              exact go
            · have hlet : letS x.f0 = 92 :: 117 :: hex6 x.f0.toNat := by unfold letS; rw [if_neg v1, if_neg v2]
              rw [hlet] at hx go
              rw [esc_code _ x.f0 hov (lineS rest) hx k hk]
              simp only [Option.bind_some]
              rw [if_neg (by decide), if_pos hacc, w8]
              exact go
    · have : past = s.size := by omega
      subst this
      rw [if_neg c1]
      cases rest with
      | nil => simp [withS]
      | cons x rest =>
        have := congrArg List.length hl
        rw [List.length_drop, lineS_cons, List.length_append] at this
        have := (letS_len x.f0).1
        omega
theorem unline_line (l : List Sg) (ho : l.all okS = true) (s : ByteArray) (hs : L s = lineS l) (hl : l.length ≤ 1000) (most : Int) (hm : (l.length : Int) ≤ most) (k : Nat) (hk : 21 ≤ k) : esc_Unline.f k s most = some (withS l 3) := by
  have h1 := lineS_len l
  have h2 : s.size = (lineS l).length := by rw [← L_len, hs]
  have := unline_l s most k hk (by omega) (fun x hx => by have := lineS_bytes l x (hs ▸ hx); omega) (s.size + 1) 0 0 [] l (by omega) (Nat.le_refl _) (Nat.zero_le _) hs ho (by simpa using hm) (Nat.le_refl _)
  simpa [esc_Unline.f] using this
end Go.Proofs.YtddkmhkglmcihaaDoor.Q
