/- Plain facts: what the program reads first from a text. -/
import Derived.Test.YtddkmhkglmcihaaPAllx7
import Derived.Test.YtddkmhkglmcihaaPAllx8
import Derived.Test.YtddkmhkglmcihaaQEmit3
set_option linter.unusedVariables false
set_option linter.unusedSimpArgs false
namespace Go.Proofs.Ytddkmhkglmcihaa.Q
open Go.RowKit Go.Proofs.Ytddkmhkglmcihaa.PAll Go.Proofs.YtddkmhkglmcihaaW.PrintWords Go.Proofs.YtddkmhkglmcihaaW.PrintLast Go.Proofs.YtddkmhkglmcihaaW.PrintMore
theorem laid_total (k : Nat) : ∀ (u : Int) (s : ByteArray), 0 ≤ u → u < 10 ^ k → ∃ r, num_laid.l 10 1 (k + 2) u s = some r ∧ r.size ≤ s.size + k + 1 := by
  induction k with
  | zero =>
    intro u s h0 h1
    have hu : u = 0 := by
      have : (10 : Int) ^ 0 = 1 := rfl
      omega
    subst hu
    simp only [num_laid.l]
    have hd : (num_laid.d (0 % 10)).size = 1 := by decide
    repeat' split
    all_goals first
      | exact ⟨_, rfl, by (try rw [ByteArray.size_append]); omega⟩
      | (exfalso; omega)
      | (exfalso; rename_i q1 q2; rw [ByteArray.size_append] at q2; omega)
      | (exfalso; rename_i q1 q2 q3; rw [ByteArray.size_append] at q3; omega)
  | succ k ih =>
    intro u s h0 h1
    have hd := num_laid.d_size (u % 10)
    simp only [num_laid.l]
    have hq : u / 10 < 10 ^ k := by
      rw [Int.pow_succ] at h1
      omega
    have hm : ∃ r, num_laid.l 10 1 (k + 2) (u / 10) (num_laid.d (u % 10) ++ s) = some r ∧ r.size ≤ s.size + (k + 1) + 1 := by
      obtain ⟨r, h2, h3⟩ := ih (u / 10) (num_laid.d (u % 10) ++ s) (by omega) hq
      rw [ByteArray.size_append] at h3
      exact ⟨r, h2, by omega⟩
    by_cases c : 0 < u
    · rw [if_pos c]
      exact hm
    · rw [if_neg c]
      by_cases d : (s.size : Int) < 1
      · rw [if_pos d]
        exact hm
      · rw [if_neg d]
        exact ⟨_, rfl, by omega⟩
theorem wrap_range (x : Int) : -9223372036854775808 ≤ wrap64 x ∧ wrap64 x ≤ 9223372036854775807 := by
  unfold wrap64
  omega
theorem laid_64 (u : Int) (h0 : 0 ≤ u) (h1 : u ≤ 18446744073709551615) : ∃ r, num_laid.l 10 1 64 u ⟨#[]⟩ = some r ∧ r.size ≤ 70 := by
  obtain ⟨r, h2, h3⟩ := laid_total 62 u ⟨#[]⟩ h0 (Int.lt_of_le_of_lt h1 (by decide))
  exact ⟨r, h2, by have : (⟨#[]⟩ : ByteArray).size = 0 := rfl; omega⟩
theorem dec_total (x : Int) : ∃ s, num_Dec.f (wrap64 x) = some s := by
  have hw := wrap_range x
  unfold num_Dec.f
  by_cases c : wrap64 x < 0
  · rw [if_pos c, if_pos hw.1]
    obtain ⟨r, h1, h2⟩ := laid_64 (-wrap64 x) (by omega) (by omega)
    rw [h1]
    simp only [Option.bind_some]
    rw [if_pos (by omega)]
    exact ⟨_, rfl⟩
  · rw [if_neg c, if_pos hw.2]
    obtain ⟨r, h1, h2⟩ := laid_64 (wrap64 x) (by omega) (by omega)
    exact ⟨r, h1⟩
theorem undec_l0 (x0 x4 : ByteArray) (x5 : Bool) (n : Int) (hn : n ≤ 20) (hx : n ≤ x4.size) : ∀ (d k : Nat) (x6 i : Int), 0 ≤ i → n - i ≤ d → d < k → ∃ r, num_Undec.l0 k x0 x4 x5 x6 n i = some r := by
  have fin : ∀ (k : Nat) (x6 i : Int), ¬ i < n → ∃ r, num_Undec.l0 (k + 1) x0 x4 x5 x6 n i = some r := by
    intro k x6 i h
    simp only [num_Undec.l0]
    rw [if_neg h]
    obtain ⟨s1, h1⟩ := dec_total (IntKind.u64.wrap (-x6))
    obtain ⟨s2, h2⟩ := dec_total x6
    rw [h1, h2]
    simp only [Option.bind_some]
    repeat' split
    all_goals exact ⟨_, rfl⟩
  intro d
  induction d with
  | zero =>
    intro k x6 i h0 h1 hk
    obtain ⟨k, rfl⟩ : ∃ m, k = m + 1 := ⟨k - 1, by omega⟩
    exact fin k x6 i (by omega)
  | succ d ih =>
    intro k x6 i h0 h1 hk
    obtain ⟨k, rfl⟩ : ∃ m, k = m + 1 := ⟨k - 1, by omega⟩
    by_cases c : i < n
    · have w1 : wrap64 (i + 1) = i + 1 := by unfold wrap64; omega
      simp only [num_Undec.l0]
      rw [if_pos c, if_pos h0, if_pos (by omega), w1]
      unfold strings_IndexByte.f
      simp only [Option.bind_some]
      exact ih k _ (i + 1) (by omega) (by omega) (by omega)
    · exact fin k x6 i c
theorem undec_total (s : ByteArray) (k : Nat) (hk : 30 ≤ k) : ∃ r, num_Undec.f k s = some r := by
  unfold num_Undec.f
  rw [cutPrefix_eq]
  simp only [Option.bind_some]
  have hm : ∀ t : ByteArray, mn (t.size : Int) 20 ≤ 20 ∧ mn (t.size : Int) 20 ≤ t.size ∧ 0 ≤ mn (t.size : Int) 20 := by
    intro t
    unfold mn
    omega
  obtain ⟨m1, m2, m3⟩ := hm (if (L (⟨#[45]⟩ : ByteArray)).isPrefixOf (L s) = true then (s.extract (⟨#[45]⟩ : ByteArray).size s.size, true) else (s, false)).1
  exact undec_l0 _ _ _ _ m1 m2 20 k 0 0 (by omega) (by omega) (by omega)
theorem indexByte_at (d : List UInt8) (c : UInt8) (r : List UInt8) (h : c ∉ d) : Lib.indexByte (d ++ c :: r) c = (d.length : Int) := by
  induction d with
  | nil =>
    show (if (c == c) = true then (0 : Int) else _) = _
    rw [if_pos (by simp)]
    rfl
  | cons x d ih =>
    have hx : x ≠ c := fun e => h (by rw [e]; exact List.mem_cons_self)
    have hd : c ∉ d := fun e => h (List.mem_cons_of_mem _ e)
    show (if (x == c) = true then (0 : Int) else if (Lib.indexByte (d ++ c :: r) c == -1) = true then -1 else Lib.indexByte (d ++ c :: r) c + 1) = _
    rw [if_neg (by simpa using hx), ih hd, if_neg (by rw [beq_iff_eq]; omega)]
    simp
theorem indexByte_bound (l : List UInt8) (c : UInt8) : -1 ≤ Lib.indexByte l c ∧ (Lib.indexByte l c < l.length ∨ Lib.indexByte l c = -1) := by
  induction l with
  | nil => exact ⟨by show (-1 : Int) ≤ -1; omega, .inr rfl⟩
  | cons x l ih =>
    have e : Lib.indexByte (x :: l) c = if (x == c) = true then (0 : Int) else if (Lib.indexByte l c == -1) = true then -1 else Lib.indexByte l c + 1 := rfl
    rw [e]
    split
    · exact ⟨by omega, .inl (by simp only [List.length_cons]; omega)⟩
    · split
      · exact ⟨by omega, .inr rfl⟩
      · rename_i h1 h2
        have : Lib.indexByte l c ≠ -1 := by simpa using h2
        exact ⟨by omega, .inl (by simp only [List.length_cons]; omega)⟩
theorem cut_total (s : ByteArray) (hs : s.size ≤ 1000000) : ∃ r, strings_Cut.f s (⟨#[59]⟩ : ByteArray) = some r := by
  unfold strings_Cut.f stringslite_Cut.f
  have hi : stringslite_Index.f s (⟨#[59]⟩ : ByteArray) = some (Lib.indexByte (L s) 59) := rfl
  rw [hi]
  simp only [Option.bind_some, show (⟨#[59]⟩ : ByteArray).size = 1 from rfl]
  have hb := indexByte_bound (L s) 59
  have e1 : (L s).length = s.size := rfl
  generalize Lib.indexByte (L s) 59 = i at *
  by_cases c : i ≥ 0
  · have w1 : wrap64 (i + ((1 : Nat) : Int)) = i + 1 := by unfold wrap64; omega
    rw [if_pos c, if_pos c, if_pos (by omega), w1, if_pos (by omega), if_pos (by omega)]
    exact ⟨_, rfl⟩
  · rw [if_neg c]
    exact ⟨_, rfl⟩
theorem cut_at (s : ByteArray) (d r : List UInt8) (hs : s.size ≤ 1000000) (h : L s = d ++ 59 :: r) (hd : (59 : UInt8) ∉ d) : ∃ a b, strings_Cut.f s (⟨#[59]⟩ : ByteArray) = some (a, b, true) ∧ L a = d ∧ L b = r := by
  unfold strings_Cut.f stringslite_Cut.f
  have hi : stringslite_Index.f s (⟨#[59]⟩ : ByteArray) = some (Lib.indexByte (L s) 59) := rfl
  have e1 : (L s).length = s.size := rfl
  rw [hi, h, indexByte_at d 59 r hd]
  rw [h] at e1
  simp only [List.length_append, List.length_cons] at e1
  simp only [Option.bind_some, show (⟨#[59]⟩ : ByteArray).size = 1 from rfl]
  have w1 : wrap64 ((d.length : Int) + ((1 : Nat) : Int)) = ((d.length + 1 : Nat) : Int) := by unfold wrap64; omega
  rw [if_pos (by omega), if_pos (by omega), if_pos (by omega), w1, if_pos (by omega), if_pos (by omega)]
  refine ⟨_, _, rfl, ?_, ?_⟩
  · rw [L_ext, h, Int.toNat_natCast]
    simp
  · rw [L_ext, h, Int.toNat_natCast, show d ++ 59 :: r = (d ++ [59]) ++ r by simp, show d.length + 1 = (d ++ [(59 : UInt8)]).length by simp, List.drop_left]
    exact List.take_of_length_le (by simp; omega)
theorem read_l0 (u : ByteArray) : ∀ (d k : Nat) (i : Int), 0 ≤ i → 8 - i ≤ d → d < k → ∃ r, emit_read.l0 k u i = some r ∧ (r.1 ≠ 0 ∧ r.2.2.2 = ⟨#[]⟩) := by
  intro d
  induction d with
  | zero =>
    intro k i h0 h1 hk
    obtain ⟨k, rfl⟩ : ∃ m, k = m + 1 := ⟨k - 1, by omega⟩
    simp only [emit_read.l0]
    rw [if_neg (by omega)]
    exact ⟨_, rfl, by simp⟩
  | succ d ih =>
    intro k i h0 h1 hk
    obtain ⟨k, rfl⟩ : ∃ m, k = m + 1 := ⟨k - 1, by omega⟩
    simp only [emit_read.l0]
    by_cases c : i < 8
    · have w1 : wrap64 (i + 1) = i + 1 := by unfold wrap64; omega
      rw [if_pos c]
      unfold emit_looks.f
      rw [if_pos h0, if_pos (by omega), w1]
      simp only [Option.bind_some]
      split
      · exact ⟨_, rfl, by simp⟩
      · exact ih k (i + 1) (by omega) (by omega) (by omega)
    · rw [if_neg c]
      exact ⟨_, rfl, by simp⟩
theorem read_total (u : ByteArray) (h0 : 0 < u.size) (h1 : u.size ≤ 1000000) (k : Nat) (hk : 40 ≤ k) : ∃ r, emit_read.f k u = some r ∧ (r.1 ≠ 0 ∧ r.2.2.2 = ⟨#[]⟩) := by
  have w1 : wrap64 ((u.size : Int) - 1) = (u.size : Int) - 1 := by unfold wrap64; omega
  unfold emit_read.f
  rw [w1, if_pos (by omega), if_pos (by omega), if_pos (by omega)]
  obtain ⟨r1, e1⟩ := cut_total (u.extract 0 ((u.size : Int) - 1 : Int).toNat) (by rw [ByteArray.size_extract]; omega)
  obtain ⟨r2, e2⟩ := undec_total r1.1 k (by omega)
  obtain ⟨r3, e3⟩ := undec_total r1.2.1 k (by omega)
  rw [e1]
  simp only [Option.bind_some]
  rw [e2]
  simp only [Option.bind_some]
  rw [e3]
  simp only [Option.bind_some]
  obtain ⟨r4, e4, e5⟩ := read_l0 u 8 k 0 (by omega) (by omega) (by omega)
  repeat' split
  all_goals first
    | exact ⟨_, rfl, by simp⟩
    | exact ⟨r4, e4, e5⟩

/-- The bytes that the program passes by behind a bracket. -/
def scanC (x : Int) : Prop := (48 ≤ x ∧ x ≤ 57) ∨ x = 59 ∨ x = 63
theorem scan_in (k : Nat) (x : ByteArray) (i : Int) (h0 : 0 ≤ i) (h1 : i < (x.size : Int)) (hs : x.size ≤ 1000000) (h : scanC (bt x i)) : emit_one.l0 (k + 1) x i = emit_one.l0 k x (i + 1) := by
  have w1 : wrap64 (i + 1) = i + 1 := by unfold wrap64; omega
  unfold scanC at h
  simp only [emit_one.l0]
  rw [if_pos h1, if_pos h0, w1]
  repeat' split
  all_goals first | rfl | (exfalso; omega)
theorem scan_out (k : Nat) (x : ByteArray) (i : Int) (h0 : 0 ≤ i) (h1 : i < (x.size : Int)) (hs : x.size ≤ 1000000) (h : ¬ scanC (bt x i)) : emit_one.l0 (k + 1) x i = emit_read.f k (x.extract 0 (i + 1).toNat) := by
  have w1 : wrap64 (i + 1) = i + 1 := by unfold wrap64; omega
  have eta : ∀ r : Option (Int × Int × Int × ByteArray), (r.bind fun b => some (b.1, b.2.1, b.2.2.1, b.2.2.2)) = r := by
    intro r
    cases r <;> rfl
  unfold scanC at h
  simp only [emit_one.l0]
  rw [if_pos h1, if_pos h0, w1]
  repeat' split
  all_goals first | exact eta _ | (exfalso; omega)
theorem scan_end (k : Nat) (x : ByteArray) (i : Int) (h1 : i = (x.size : Int)) : emit_one.l0 (k + 1) x i = some ((-1), 0, 0, ⟨#[]⟩) := by
  simp only [emit_one.l0]
  rw [if_neg (by omega), if_pos h1]
theorem scan_total (x : ByteArray) (hs : x.size ≤ 1000000) : ∀ (d k : Nat) (i : Int), 0 ≤ i → i ≤ x.size → (x.size : Int) - i ≤ d → d + 60 ≤ k → ∃ r, emit_one.l0 k x i = some r ∧ (r.1 ≠ 0 ∧ r.2.2.2 = ⟨#[]⟩) := by
  intro d
  induction d with
  | zero =>
    intro k i h0 h1 h2 hk
    obtain ⟨k, rfl⟩ : ∃ m, k = m + 1 := ⟨k - 1, by omega⟩
    exact ⟨_, scan_end k x i (by omega), by simp⟩
  | succ d ih =>
    intro k i h0 h1 h2 hk
    obtain ⟨k, rfl⟩ : ∃ m, k = m + 1 := ⟨k - 1, by omega⟩
    by_cases c : i < (x.size : Int)
    · by_cases h : scanC (bt x i)
      · rw [scan_in k x i h0 c hs h]
        exact ih k (i + 1) (by omega) (by omega) (by omega) (by omega)
      · rw [scan_out k x i h0 c hs h]
        exact read_total _ (by rw [ByteArray.size_extract]; omega) (by rw [ByteArray.size_extract]; omega) k (by omega)
    · exact ⟨_, scan_end k x i (by omega), by simp⟩
/-- Behind bytes that are passed by stands one that is not: they are read together. -/
theorem scan_to (x : ByteArray) (hs : x.size ≤ 1000000) (a : List UInt8) (c : UInt8) (r : List UInt8) (hx : L x = a ++ c :: r) (ha : ∀ y ∈ a, scanC (y.toNat : Int)) (hc : ¬ scanC (c.toNat : Int)) (res : Int × Int × Int × ByteArray) (K : Nat) (hres : ∀ k, K ≤ k → emit_read.f k (x.extract 0 (a.length + 1)) = some res) :
    ∀ (d k i : Nat), i ≤ a.length → a.length - i ≤ d → K + d + 1 ≤ k → emit_one.l0 k x (i : Int) = some res := by
  have hl : (L x).length = x.size := rfl
  rw [hx] at hl
  simp only [List.length_append, List.length_cons] at hl
  have last : ∀ (k i : Nat), i = a.length → K + 1 ≤ k → emit_one.l0 k x (i : Int) = some res := by
    intro k i hi hk
    obtain ⟨k, rfl⟩ : ∃ m, k = m + 1 := ⟨k - 1, by omega⟩
    have hb : bt x (i : Int) = (c.toNat : Int) := by
      rw [bt_g, hx, Int.toNat_natCast, hi, g_app_right _ _ _ (Nat.le_refl _), Nat.sub_self]
      rfl
    rw [scan_out k x i (by omega) (by omega) hs (by rw [hb]; exact hc)]
    have := hres k (by omega)
    rw [show ((i : Int) + 1).toNat = a.length + 1 by omega]
    exact this
  intro d
  induction d with
  | zero =>
    intro k i h1 h2 hk
    exact last k i (by omega) (by omega)
  | succ d ih =>
    intro k i h1 h2 hk
    by_cases e : i = a.length
    · exact last k i e (by omega)
    · obtain ⟨k, rfl⟩ : ∃ m, k = m + 1 := ⟨k - 1, by omega⟩
      have hi : i < a.length := by omega
      have hb : bt x (i : Int) = (a[i].toNat : Int) := by
        rw [bt_g, hx, Int.toNat_natCast, g_app_left _ _ _ hi]
        unfold g
        rw [List.getD_eq_getElem?_getD, List.getElem?_eq_getElem hi]
        rfl
      rw [scan_in k x i (by omega) (by omega) hs (by rw [hb]; exact ha _ (List.getElem_mem hi))]
      have := ih k (i + 1) (by omega) (by omega) (by omega)
      rw [show ((i : Int) + 1) = ((i + 1 : Nat) : Int) by omega]
      exact this
/-- How many bytes stand ahead of the next control byte. -/
def pre32 (l : List UInt8) : List UInt8 := l.takeWhile fun c => decide (32 ≤ c.toNat)
theorem size_l0 (s : ByteArray) (hs : s.size ≤ 1000000) : ∀ (d k i : Nat), i ≤ s.size → s.size - i ≤ d → d < k → emit_size.l0 k s (i : Int) = some (((i + (pre32 ((L s).drop i)).length : Nat) : Int)) := by
  intro d
  have hl : (L s).length = s.size := rfl
  induction d with
  | zero =>
    intro k i h1 h2 hk
    obtain ⟨k, rfl⟩ : ∃ m, k = m + 1 := ⟨k - 1, by omega⟩
    simp only [emit_size.l0]
    rw [if_neg (by omega), List.drop_eq_nil_of_le (by omega)]
    rfl
  | succ d ih =>
    intro k i h1 h2 hk
    obtain ⟨k, rfl⟩ : ∃ m, k = m + 1 := ⟨k - 1, by omega⟩
    simp only [emit_size.l0]
    by_cases c : i < s.size
    · have hb : bt s (i : Int) = ((L s)[i].toNat : Int) := by
        rw [bt_g, Int.toNat_natCast]
        unfold g
        rw [List.getD_eq_getElem?_getD, List.getElem?_eq_getElem (show i < (L s).length by omega)]
        rfl
      have w1 : wrap64 ((i : Int) + 1) = ((i + 1 : Nat) : Int) := by unfold wrap64; omega
      rw [if_pos (by omega), if_pos (by omega), hb, List.drop_eq_getElem_cons (show i < (L s).length by omega), w1]
      unfold pre32
      by_cases e : 32 ≤ (L s)[i].toNat
      · rw [if_pos (by omega), List.takeWhile_cons_of_pos (by simpa using e), ih k (i + 1) (by omega) (by omega) (by omega)]
        unfold pre32
        simp only [List.length_cons]
        congr 1
        omega
      · rw [if_neg (by omega), List.takeWhile_cons_of_neg (by simpa using e)]
        simp
    · rw [if_neg (by omega), List.drop_eq_nil_of_le (by omega)]
      simp [pre32]
theorem size_eq32 (s : ByteArray) (hs : s.size ≤ 1000000) (k : Nat) (hk : s.size < k) : emit_size.f k s = some ((pre32 (L s)).length : Int) := by
  have := size_l0 s hs s.size k 0 (by omega) (by omega) hk
  simpa [emit_size.f] using this
theorem pre32_le (l : List UInt8) : (pre32 l).length ≤ l.length := by
  unfold pre32
  exact (List.takeWhile_sublist _).length_le
theorem pre32_take (l : List UInt8) : l.take (pre32 l).length = pre32 l := by
  unfold pre32
  induction l with
  | nil => rfl
  | cons x l ih =>
    by_cases h : 32 ≤ x.toNat
    · rw [List.takeWhile_cons_of_pos (by simpa using h)]
      simp only [List.length_cons, List.take_succ_cons]
      rw [ih]
    · rw [List.takeWhile_cons_of_neg (by simpa using h)]
      rfl
/-- What is read first. -/
theorem one_cases (s : ByteArray) (h0 : 0 < s.size) (hs : s.size ≤ 1000000) (k : Nat) (hk : s.size + 100 ≤ k) :
    ∃ r, emit_one.f k s = some r ∧ (r.1 = 0 → r.2.1 = 0 ∧ r.2.2.1 = 0 ∧ L r.2.2.2 = pre32 (L s)) ∧ (r.1 ≠ 0 → r.2.2.2 = ⟨#[]⟩) := by
  unfold emit_one.f
  rw [if_pos (by omega), cutPrefix_eq]
  simp only [Option.bind_some]
  by_cases c1 : bt s 0 = 7
  · rw [if_pos c1]
    exact ⟨_, rfl, by simp⟩
  rw [if_neg c1]
  by_cases c2 : bt s 0 = 13
  · rw [if_pos c2]
    exact ⟨_, rfl, by simp⟩
  rw [if_neg c2]
  by_cases c3 : bt s 0 = 10
  · rw [if_pos c3]
    exact ⟨_, rfl, by simp⟩
  rw [if_neg c3]
  by_cases p : (L (⟨#[27, 91]⟩ : ByteArray)).isPrefixOf (L s) = true
  · rw [if_pos p, if_pos rfl]
    obtain ⟨r, h1, h2⟩ := scan_total (s.extract (⟨#[27, 91]⟩ : ByteArray).size s.size) (by rw [ByteArray.size_extract]; omega) (s.extract (⟨#[27, 91]⟩ : ByteArray).size s.size).size k 0 (by omega) (by omega) (by omega) (by rw [ByteArray.size_extract]; omega)
    exact ⟨r, h1, fun h => absurd h h2.1, fun _ => h2.2⟩
  · have hp := pre32_le (L s)
    have e1 : (L s).length = s.size := rfl
    rw [if_neg p, if_neg (by simp), size_eq32 s hs k (by omega)]
    simp only [Option.bind_some]
    rw [if_pos (by omega), if_pos (by omega)]
    refine ⟨_, rfl, fun _ => ⟨rfl, rfl, ?_⟩, fun h => absurd rfl h⟩
    show L (s.extract 0 _) = _
    rw [L_ext, Int.toNat_natCast, List.drop_zero, Nat.sub_zero, pre32_take]
end Go.Proofs.Ytddkmhkglmcihaa.Q
