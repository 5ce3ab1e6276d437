/- Plain facts: what must come at any rate (spoof); which texts look alike; scripts. -/
import Derived.Test.YtpkmoonfnbcphaaPAllx5
import Derived.Test.YtpkmoonfnbcphaaPAllx3
import Derived.Test.YtpkmoonfnbcphaaPAllx4
import Derived.Test.YtpkmoonfnbcphaaQSp4
set_option linter.unusedVariables false
set_option linter.unusedSimpArgs false
namespace Go.Proofs.Ytpkmoonfnbcphaa.Q
open Go.RowKit Go.Proofs.Ytpkmoonfnbcphaa.PAll Go.Proofs.YtpkmoonfnbcphaaW.PrintWords Go.Proofs.YtpkmoonfnbcphaaW.PrintLast Go.Proofs.YtpkmoonfnbcphaaW.PrintMore
def stripL (l : List UInt8) : List UInt8 := catG stripS (vals l)
theorem catG_vals_len (G : Int → List UInt8) (hG : ∀ v, (G v).length ≤ 16) (l : List UInt8) : (catG G (vals l)).length ≤ 16 * l.length := by
  have h1 := catG_len G hG (vals l)
  have h2 := vals_len l
  omega
theorem fs_prog (k : Nat) (hk : 30 ≤ k) (s : ByteArray) (hs : s.size ≤ 100000) : ∃ t r, spoof_Strip.f k s = some t ∧ L t = stripL (L s) ∧ spoof_Fold.f k t = some r ∧ L r = foldL (stripL (L s)) := by
  obtain ⟨t, h1, h2⟩ := strip_prog k hk s (by omega)
  have ht : t.size ≤ 16 * s.size := by
    have := catG_vals_len stripS stripS_len (L s)
    rw [← h2, L_len, L_len] at this
    exact this
  obtain ⟨r, h3, h4⟩ := fold_prog k hk t (by omega)
  exact ⟨t, r, h1, h2, h3, by rw [h4, h2]; rfl⟩
theorem fs_ref (k : Nat) (s : ByteArray) (hs : s.size ≤ 1000) (hk : 16 * s.size + 200 ≤ k) : ∃ t r, dactylref44_Strip.f k s = some t ∧ L t = stripL (L s) ∧ dactylref44_Fold.f k t = some r ∧ L r = foldL (stripL (L s)) := by
  obtain ⟨t, h1, h2⟩ := strip_ref k s (by omega) (by omega)
  have ht : t.size ≤ 16 * s.size := by
    have := catG_vals_len stripS stripS_len (L s)
    rw [← h2, L_len, L_len] at this
    exact this
  obtain ⟨r, h3, h4⟩ := fold_ref k t (by omega) (by omega)
  exact ⟨t, r, h1, h2, h3, by rw [h4, h2]; rfl⟩
def aliS (a b : List UInt8) : Bool := foldL (stripL a) == foldL (stripL b)
theorem alike_prog (k : Nat) (hk : 30 ≤ k) (a b : ByteArray) (ha : a.size ≤ 100000) (hb : b.size ≤ 100000) : spoof_Alike.f k a b = some (aliS (L a) (L b)) := by
  obtain ⟨t, r, h1, h2, h3, h4⟩ := fs_prog k hk a ha
  obtain ⟨t', r', g1, g2, g3, g4⟩ := fs_prog k hk b hb
  unfold spoof_Alike.f aliS
  rw [h1]
  simp only [Option.bind_some]
  rw [h3]
  simp only [Option.bind_some]
  rw [g1]
  simp only [Option.bind_some]
  rw [g3]
  simp only [Option.bind_some, tl]
  rw [h4, g4]
theorem aliS_refl (a : List UInt8) : aliS a a = true := by unfold aliS; exact beq_self_eq_true _
theorem aliS_symm (a b : List UInt8) : aliS a b = aliS b a := by unfold aliS; exact BEq.comm
theorem aliS_trans (a b c : List UInt8) (h1 : aliS a b = true) (h2 : aliS b c = true) : aliS a c = true := by
  unfold aliS at *
  rw [beq_iff_eq] at *
  exact h1.trans h2
theorem srt_eq : ∀ (a b : List Int), a.Pairwise (· < ·) → b.Pairwise (· < ·) → (∀ x, x ∈ a ↔ x ∈ b) → a = b
  | [], [], _, _, _ => rfl
  | [], y :: b, _, _, h => absurd ((h y).mpr List.mem_cons_self) (by simp)
  | x :: a, [], _, _, h => absurd ((h x).mp List.mem_cons_self) (by simp)
  | x :: a, y :: b, ha, hb, h => by
    rw [List.pairwise_cons] at ha hb
    have e : x = y := by
      rcases List.mem_cons.mp ((h x).mp List.mem_cons_self) with e | hx
      · exact e
      · rcases List.mem_cons.mp ((h y).mpr List.mem_cons_self) with e | hy
        · exact e.symm
        · have := hb.1 x hx; have := ha.1 y hy; omega
    subst e
    rw [srt_eq a b ha.2 hb.2 (fun z => ?_)]
    constructor
    · intro hz
      rcases List.mem_cons.mp ((h z).mp (List.mem_cons_of_mem _ hz)) with e | hz'
      · have := ha.1 z hz; omega
      · exact hz'
    · intro hz
      rcases List.mem_cons.mp ((h z).mpr (List.mem_cons_of_mem _ hz)) with e | hz'
      · have := hb.1 z hz; omega
      · exact hz'
theorem compact_srt (d : Array Int) (hd : ∀ i j : Nat, i ≤ j → j < d.size → d[i]! ≤ d[j]!) : ∀ m, 1 ≤ m → m ≤ d.size → (Lib.compactUpTo d m).Pairwise (· < ·) ∧ (∀ x, x ∈ Lib.compactUpTo d m ↔ ∃ i, i < m ∧ d[i]! = x) := by
  intro m
  induction m with
  | zero => intro h; omega
  | succ m ih =>
    intro _ hm
    rw [Lib.compactUpTo_succ]
    by_cases h0 : m = 0
    · subst h0
      rw [Lib.keeps_lt_one d 0 (by decide), if_pos rfl]
      have e : Lib.compactUpTo d 0 = [] := rfl
      rw [e]
      refine ⟨by simp, fun x => ?_⟩
      simp only [List.nil_append, List.mem_singleton]
      constructor
      · intro h; exact ⟨0, by decide, h.symm⟩
      · rintro ⟨i, hi, h⟩
        have : i = 0 := by omega
        subst this
        exact h.symm
    · obtain ⟨h1, h2⟩ := ih (by omega) (by omega)
      have hle := hd (m - 1) m (by omega) (by omega)
      by_cases c : d[m]! = d[m - 1]!
      · rw [Lib.keeps_neg (by omega) c, if_neg (by decide), List.append_nil]
        refine ⟨h1, fun x => ?_⟩
        rw [h2 x]
        constructor
        · rintro ⟨i, hi, h⟩; exact ⟨i, by omega, h⟩
        · rintro ⟨i, hi, h⟩
          by_cases e : i = m
          · subst e; exact ⟨i - 1, by omega, by rw [← c]; exact h⟩
          · exact ⟨i, by omega, h⟩
      · rw [Lib.keeps_pos c, if_pos rfl]
        refine ⟨?_, fun x => ?_⟩
        · rw [List.pairwise_append]
          refine ⟨h1, by simp, fun x hx y hy => ?_⟩
          rw [List.mem_singleton.mp hy]
          obtain ⟨i, hi, rfl⟩ := (h2 x).mp hx
          have := hd i (m - 1) (by omega) (by omega)
          omega
        · rw [List.mem_append, h2 x, List.mem_singleton]
          constructor
          · rintro (⟨i, hi, h⟩ | h)
            · exact ⟨i, by omega, h⟩
            · exact ⟨m, by omega, h.symm⟩
          · rintro ⟨i, hi, h⟩
            by_cases e : i = m
            · subst e; exact .inr h.symm
            · exact .inl ⟨i, by omega, h⟩
theorem arr_at (l : List Int) (i : Nat) (h : i < l.length) : l.toArray[i]! = l[i] := by
  simp [getElem!_pos, h]
theorem compact_sorted (l : List Int) : (Lib.compact (l.mergeSort fun x y => decide (x ≤ y))).Pairwise (· < ·) ∧ (∀ x, x ∈ Lib.compact (l.mergeSort fun x y => decide (x ≤ y)) ↔ x ∈ l) := by
  have hp := List.mergeSort_perm l (fun x y => decide (x ≤ y))
  have hs : (l.mergeSort fun x y => decide (x ≤ y)).Pairwise (fun x y => decide (x ≤ y) = true) := List.pairwise_mergeSort (by intro a b c h1 h2; simp only [decide_eq_true_eq] at *; omega) (by intro a b; simp only [Bool.or_eq_true, decide_eq_true_eq]; omega) l
  have hm : ∀ x, x ∈ (l.mergeSort fun x y => decide (x ≤ y)) ↔ x ∈ l := fun x => hp.mem_iff
  generalize (l.mergeSort fun x y => decide (x ≤ y)) = m at hs hm
  by_cases h0 : m.length = 0
  · have : m = [] := List.eq_nil_of_length_eq_zero h0
    subst this
    have e : Lib.compact ([] : List Int) = [] := rfl
    rw [e]
    exact ⟨by simp, hm⟩
  · have hd : ∀ i j : Nat, i ≤ j → j < m.toArray.size → m.toArray[i]! ≤ m.toArray[j]! := by
      intro i j hij hj
      rw [List.size_toArray] at hj
      rw [arr_at m i (by omega), arr_at m j hj]
      rcases Nat.eq_or_lt_of_le hij with e | e
      · subst e; omega
      · exact of_decide_eq_true (List.pairwise_iff_getElem.mp hs i j (by omega) hj e)
    obtain ⟨h1, h2⟩ := compact_srt m.toArray hd m.length (by omega) (by simp)
    refine ⟨h1, fun x => ?_⟩
    rw [← hm x]
    refine (h2 x).trans ⟨?_, ?_⟩
    · rintro ⟨i, hi, h⟩
      rw [arr_at m i hi] at h
      rw [← h]
      exact List.getElem_mem hi
    · intro hx
      obtain ⟨i, hi, h⟩ := List.mem_iff_getElem.mp hx
      exact ⟨i, hi, by rw [arr_at m i hi]; exact h⟩
/-- A value's script. -/
def scrS (v : Int) : Int := if (65 ≤ v ∧ v ≤ 90) ∨ (97 ≤ v ∧ v ≤ 122) ∨ (192 ≤ v ∧ v ≤ 591) then 1 else if 880 ≤ v ∧ v ≤ 1023 then 2 else if 1024 ≤ v ∧ v ≤ 1327 then 3 else if ofS v = 2 then 4 else 0
theorem scr_prog (k : Nat) (hk : 20 ≤ k) (v : Int) : spoof_script.f k v = some (scrS v) := by
  obtain ⟨k, rfl⟩ : ∃ m, k = m + 4 := ⟨k - 4, by omega⟩
  have j2 : ∀ b : Bool, spoof_script.j2 (k + 2) v b = some (if b = true then 3 else if ofS v = 2 then 4 else 0) := by
    intro b
    simp only [spoof_script.j2]
    rw [prog_of _ v (by omega)]
    simp only [Option.bind_some]
    repeat' split
    all_goals rfl
  have j1 : ∀ b : Bool, spoof_script.j1 (k + 3) v b = some (if b = true then 2 else if 1024 ≤ v ∧ v ≤ 1327 then 3 else if ofS v = 2 then 4 else 0) := by
    intro b
    simp only [spoof_script.j1, j2, decide_eq_true_eq, Bool.false_eq_true]
    by_cases c : b = true
    · rw [if_pos c, if_pos c]
    · rw [if_neg c, if_neg c]
      by_cases q : 1024 ≤ v ∧ v ≤ 1327
      · rw [if_pos q.1, if_pos q.2, if_pos q]
      · rw [if_neg q]
        by_cases d : v ≥ 1024
        · rw [if_pos d, if_neg (fun h => q ⟨d, h⟩)]
        · rw [if_neg d, if_neg id]
  have j0 : ∀ b : Bool, spoof_script.j0 (k + 4) v b = some (if b = true then 1 else if 880 ≤ v ∧ v ≤ 1023 then 2 else if 1024 ≤ v ∧ v ≤ 1327 then 3 else if ofS v = 2 then 4 else 0) := by
    intro b
    simp only [spoof_script.j0, j1, decide_eq_true_eq, Bool.false_eq_true]
    by_cases c : b = true
    · rw [if_pos c, if_pos c]
    · rw [if_neg c, if_neg c]
      by_cases q : 880 ≤ v ∧ v ≤ 1023
      · rw [if_pos q.1, if_pos q.2, if_pos q]
      · rw [if_neg q]
        by_cases d : v ≥ 880
        · rw [if_pos d, if_neg (fun h => q ⟨d, h⟩)]
        · rw [if_neg d, if_neg id]
  unfold spoof_script.f scrS
  simp only [j0, decide_eq_true_eq, Bool.false_eq_true, if_false, if_true]
  by_cases hc : (65 ≤ v ∧ v ≤ 90) ∨ (97 ≤ v ∧ v ≤ 122) ∨ (192 ≤ v ∧ v ≤ 591)
  · rw [if_pos hc]
    repeat' split
    all_goals first | rfl | (exfalso; omega)
  · rw [if_neg hc]
    by_cases c1 : v ≥ 97
    · rw [if_pos c1, if_neg (by omega), if_pos (by omega), if_neg (by omega)]
      by_cases c2 : v ≥ 192
      · rw [if_pos c2, if_neg (by omega)]
      · rw [if_neg c2]
    · rw [if_neg c1]
      by_cases c2 : v ≥ 65
      · rw [if_pos c2, if_neg (by omega), if_neg (by omega)]
      · rw [if_neg c2, if_neg (by omega)]
theorem scr_range (v : Int) : scrS v = 0 ∨ scrS v = 1 ∨ scrS v = 2 ∨ scrS v = 3 ∨ scrS v = 4 := by
  unfold scrS
  repeat' split
  all_goals omega
def hasS (vs : List Int) (k : Int) : Bool := vs.any fun v => scrS v == k
def scrL (vs : List Int) : List Int := ([1, 2, 3, 4] : List Int).filter (hasS vs)
theorem scripts_prog (k : Nat) (s : ByteArray) (hs : s.size ≤ 100000) (hk : s.size + 50 ≤ k) : spoof_Scripts.f k s = some (scrL (vals (L s))) := by
  have hv := vals_len (L s)
  rw [L_len] at hv
  generalize hvs : vals (L s) = vs at *
  have key : ∀ (n k i : Nat) (acc : List Int), vs.length - i ≤ n → n + 30 ≤ k → i ≤ vs.length → acc.length ≤ i → (∀ x, x ∈ acc ↔ 0 < x ∧ ∃ v ∈ vs.take i, scrS v = x) → spoof_Scripts.l0 k acc vs (vs.length : Int) (i : Int) = some (scrL vs) := by
    intro n
    induction n with
    | zero =>
      intro k i acc h0 hk hi hs hm
      obtain ⟨k, rfl⟩ : ∃ m, k = m + 1 := ⟨k - 1, by omega⟩
      have hi : i = vs.length := by omega
      subst hi
      rw [List.take_length] at hm
      simp only [spoof_Scripts.l0]
      rw [if_neg (by omega)]
      unfold slices_Sort_int_int.f slices_Compact_int_int.f
      have hml : (acc.mergeSort fun x y => decide (x ≤ y)).length = acc.length := List.length_mergeSort _
      rw [if_pos (by omega)]
      simp only [Option.bind_some]
      rw [if_pos (by omega)]
      simp only [Option.bind_some]
      obtain ⟨g1, g2⟩ := compact_sorted acc
      congr 1
      refine srt_eq _ _ g1 ?_ (fun x => ?_)
      · exact List.Pairwise.filter _ (by decide)
      · rw [g2 x, hm x]
        unfold scrL hasS
        rw [List.mem_filter, List.any_eq_true]
        constructor
        · rintro ⟨p, v, hv, e⟩
          refine ⟨?_, v, hv, by rw [beq_iff_eq]; exact e⟩
          rcases scr_range v with r | r | r | r | r <;> rw [r] at e <;> subst e <;> simp at *
        · rintro ⟨p, v, hv, e⟩
          refine ⟨?_, v, hv, beq_iff_eq.mp e⟩
          simp only [List.mem_cons, List.not_mem_nil, or_false] at p
          omega
    | succ n ih =>
      intro k i acc h0 hk hi hs hm
      by_cases c : i < vs.length
      · obtain ⟨k, rfl⟩ : ∃ m, k = m + 1 := ⟨k - 1, by omega⟩
        have ht : vs.take (i + 1) = vs.take i ++ [vs[i]] := by rw [List.take_append_getElem]
        simp only [spoof_Scripts.l0]
        rw [if_pos (by omega), if_pos (by omega), if_pos (by omega), rd_int vs i c, scr_prog k (by omega), w64_succ i (by omega)]
        simp only [Option.bind_some]
        by_cases d : scrS vs[i] > 0
        · rw [if_pos d, if_pos (by omega)]
          refine ih k (i + 1) _ (by omega) (by omega) (by omega) (by rw [List.length_append, List.length_singleton]; omega) (fun x => ?_)
          rw [List.mem_append, hm x, List.mem_singleton, ht]
          constructor
          · rintro (⟨p, v, hv, e⟩ | e)
            · exact ⟨p, v, List.mem_append.mpr (.inl hv), e⟩
            · exact ⟨by rw [e]; exact d, vs[i], List.mem_append.mpr (.inr (List.mem_singleton.mpr rfl)), e.symm⟩
          · rintro ⟨p, v, hv, e⟩
            rcases List.mem_append.mp hv with hv | hv
            · exact .inl ⟨p, v, hv, e⟩
            · rw [List.mem_singleton.mp hv] at e; exact .inr e.symm
        · rw [if_neg d]
          refine ih k (i + 1) _ (by omega) (by omega) (by omega) (by omega) (fun x => ?_)
          rw [hm x, ht]
          constructor
          · rintro ⟨p, v, hv, e⟩
            exact ⟨p, v, List.mem_append.mpr (.inl hv), e⟩
          · rintro ⟨p, v, hv, e⟩
            rcases List.mem_append.mp hv with hv | hv
            · exact ⟨p, v, hv, e⟩
            · rw [List.mem_singleton.mp hv] at e; omega
      · exact ih k i acc (by omega) (by omega) hi hs hm
  unfold spoof_Scripts.f
  rw [prog_dec s (by omega), hvs]
  simp only [Option.bind_some]
  exact key vs.length k 0 [] (by omega) (by omega) (Nat.zero_le _) (Nat.zero_le _) (fun x => by simp)
end Go.Proofs.Ytpkmoonfnbcphaa.Q
