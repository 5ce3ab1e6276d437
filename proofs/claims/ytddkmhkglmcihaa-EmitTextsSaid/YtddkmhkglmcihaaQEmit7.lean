/- Plain facts: the single bytes of what is shown, and what is read first where a piece stands. -/
import Derived.Test.YtddkmhkglmcihaaPAllx7
import Derived.Test.YtddkmhkglmcihaaQEmit6
set_option linter.unusedVariables false
set_option linter.unusedSimpArgs false
namespace Go.Proofs.Ytddkmhkglmcihaa.Q
open Go.RowKit Go.Proofs.Ytddkmhkglmcihaa.PAll Go.Proofs.YtddkmhkglmcihaaW.PrintWords Go.Proofs.YtddkmhkglmcihaaW.PrintLast Go.Proofs.YtddkmhkglmcihaaW.PrintMore
theorem one_hi (l : List UInt8) (h : l ≠ []) : ((one l).2 = 1 ∧ g l 0 < 128 ∧ (one l).1 = g l 0) ∨ (128 ≤ g l 0 ∧ ∀ j, j < (one l).2 → 128 ≤ g l j) := by
  by_cases c : g l 0 < 128
  · left
    unfold one
    rw [oneI_1 _ _ _ _ _ c]
    exact ⟨rfl, c, rfl⟩
  · right
    refine ⟨by omega, ?_⟩
    unfold one oneI mayP
    rw [if_neg c]
    intro j hj
    have hj4 : j = 0 ∨ j = 1 ∨ j = 2 ∨ j = 3 ∨ 4 ≤ j := by omega
    repeat' split at hj
    all_goals (rename_i hq; simp only at hj; rcases hj4 with e | e | e | e | e <;> (try subst e) <;> first | omega | (simp at hj; done) | (simp at hj; omega))
theorem vals_bytes (P : Int → Prop) : ∀ (n : Nat) (l : List UInt8), l.length ≤ n → (∀ v ∈ vals l, P v) → ∀ x ∈ l, x.toNat < 128 → P (x.toNat : Int) := by
  intro n
  induction n with
  | zero =>
    intro l hl _ x hx
    have hnil : l = [] := List.eq_nil_of_length_eq_zero (by omega)
    subst hnil
    cases hx
  | succ n ih =>
    intro l hl hv x hx hx2
    have hne : l ≠ [] := List.ne_nil_of_mem hx
    have w := one_width l hne
    rw [vals_cons l hne] at hv
    rw [← List.take_append_drop (one l).2 l] at hx
    rcases List.mem_append.mp hx with h | h
    · obtain ⟨j, hj, hjx⟩ := List.getElem_of_mem h
      rw [List.length_take] at hj
      rw [List.getElem_take] at hjx
      have hg : g l j = (x.toNat : Int) := by
        unfold g
        rw [List.getD_eq_getElem?_getD, List.getElem?_eq_getElem (by omega), hjx]
        rfl
      rcases one_hi l hne with ⟨h1, h2, h3⟩ | ⟨h1, h2⟩
      · have hj0 : j = 0 := by omega
        rw [← hg, hj0, ← h3]
        exact hv _ (List.mem_cons_self)
      · have := h2 j (by omega)
        omega
    · exact ih (l.drop (one l).2) (by rw [List.length_drop]; omega) (fun v hv2 => hv v (List.mem_cons_of_mem _ hv2)) x h hx2
set_option maxRecDepth 100000 in
theorem ctl_all : (List.range 128).all (fun n => (decide (n = 127) || decide (ofS (n : Int) ≤ 4)) && (decide (32 ≤ n ∧ n ≠ 127) || decide (widS (n : Int) = 0))) = true := by decide +kernel
theorem ctl (n : Nat) (h : n < 128) : (n = 127 ∨ ofS (n : Int) ≤ 4) ∧ ((32 ≤ n ∧ n ≠ 127) ∨ widS (n : Int) = 0) := by
  have := List.all_eq_true.mp ctl_all n (List.mem_range.mpr h)
  simpa only [Bool.and_eq_true, Bool.or_eq_true, decide_eq_true_eq] using this
theorem plain_byte (l : List UInt8) (h : plainT l = true) : ∀ x ∈ l, 32 ≤ x.toNat ∧ x.toNat ≠ 127 := by
  intro x hx
  by_cases c : x.toNat < 128
  · unfold plainT at h
    rw [Bool.and_eq_true] at h
    have h2 := List.all_eq_true.mp h.2
    have h3 : widS (x.toNat : Int) ≠ 0 := vals_bytes (fun v => widS v ≠ 0) l.length l (Nat.le_refl _) (fun v hv => by simpa using h2 v hv) x hx c
    exact (ctl x.toNat c).2.resolve_right h3
  · omega
theorem plain_ne (l : List UInt8) (h : plainT l = true) : l ≠ [] := by
  rintro rfl
  cases h
theorem pre32_all (t r : List UInt8) (ht : ∀ x ∈ t, 32 ≤ x.toNat) (hr : r = [] ∨ g r 0 < 32) : pre32 (t ++ r) = t := by
  induction t with
  | nil => exact pre32_none r hr
  | cons x t ih =>
    have hx := ht x (List.mem_cons_self)
    unfold pre32 at ih ⊢
    rw [List.cons_append, List.takeWhile_cons_of_pos (by simpa using hx), ih (fun y hy => ht y (List.mem_cons_of_mem _ hy))]
theorem pre2_no (l : List UInt8) (h : 32 ≤ g l 0) : ¬ (L (⟨#[27, 91]⟩ : ByteArray)).isPrefixOf l = true := by
  intro hp
  cases l with
  | nil => cases hp
  | cons x l =>
    have e : (27 == x && [(91 : UInt8)].isPrefixOf l) = true := hp
    rw [Bool.and_eq_true, beq_iff_eq] at e
    have hx : (x.toNat : Int) = 27 := by rw [← e.1]; rfl
    have h2 : (32 : Int) ≤ (x.toNat : Int) := h
    omega
theorem one_text (s : ByteArray) (t r : List UInt8) (hs : s.size ≤ 1000000) (h : L s = t ++ r) (ht : plainT t = true) (hr : r = [] ∨ g r 0 < 32) (k : Nat) (hk : s.size + 100 ≤ k) :
    ∃ b, emit_one.f k s = some (0, 0, 0, b) ∧ L b = t := by
  have hb := plain_byte t ht
  have hne := plain_ne t ht
  have hp : pre32 (L s) = t := by
    rw [h]
    exact pre32_all t r (fun x hx => (hb x hx).1) hr
  have hl : (L s).length = s.size := rfl
  have htl : 0 < t.length := List.length_pos_iff.mpr hne
  have hsz : t.length ≤ s.size := by rw [← hl, h, List.length_append]; omega
  have h0 : 32 ≤ g (L s) 0 := by
    rw [h, g_app_left t r 0 htl]
    cases t with
    | nil => exact absurd rfl hne
    | cons x t =>
      have := (hb x (List.mem_cons_self)).1
      show (32 : Int) ≤ (x.toNat : Int)
      omega
  have hb0 : bt s 0 = g (L s) 0 := bt_g s 0
  unfold emit_one.f
  rw [if_pos (by omega), cutPrefix_eq, hb0, if_neg (by omega), if_neg (by omega), if_neg (by omega), if_neg (pre2_no _ h0), size_eq32 s hs k (by omega), hp]
  simp only [Option.bind_some, Bool.false_eq_true, if_false]
  rw [if_pos (by omega), if_pos (by omega)]
  refine ⟨_, rfl, ?_⟩
  rw [L_ext, h, Int.toNat_natCast, List.drop_zero, Nat.sub_zero]
  exact List.take_left' rfl
/-- Where a bracket stands first, what stands behind it is read. -/
theorem one_esc (s : ByteArray) (a : List UInt8) (c : UInt8) (r : List UInt8) (hs : s.size ≤ 1000000) (h : L s = 27 :: 91 :: (a ++ c :: r)) (ha : ∀ y ∈ a, scanC (y.toNat : Int)) (hc : ¬ scanC (c.toNat : Int)) (res : Int × Int × Int × ByteArray) (K : Nat)
    (hres : ∀ u : ByteArray, L u = a ++ [c] → ∀ k, K ≤ k → emit_read.f k u = some res) (k : Nat) (hk : K + s.size + 1 ≤ k) : emit_one.f k s = some res := by
  have hl : (L s).length = s.size := rfl
  have hsz := hl
  rw [h] at hsz
  simp only [List.length_cons, List.length_append] at hsz
  have hb0 : bt s 0 = 27 := by
    rw [bt_g, h]
    rfl
  have hpre : (L (⟨#[27, 91]⟩ : ByteArray)).isPrefixOf (L s) = true := by
    rw [h]
    show ((27 : UInt8) == 27 && ((91 : UInt8) == 91 && List.isPrefixOf [] _)) = true
    simp
  have hx : L (s.extract (⟨#[27, 91]⟩ : ByteArray).size s.size) = a ++ c :: r := by
    rw [L_ext, h]
    show List.take _ (a ++ c :: r) = _
    exact List.take_of_length_le (by rw [List.length_append, List.length_cons]; show _ ≤ s.size - 2; omega)
  have hxs : (s.extract (⟨#[27, 91]⟩ : ByteArray).size s.size).size = s.size - 2 := by
    rw [ByteArray.size_extract]
    show min s.size s.size - 2 = _
    omega
  have hu : L ((s.extract (⟨#[27, 91]⟩ : ByteArray).size s.size).extract 0 (a.length + 1)) = a ++ [c] := by
    rw [L_ext, hx, List.drop_zero, Nat.sub_zero, show a ++ c :: r = (a ++ [c]) ++ r by simp, show a.length + 1 = (a ++ [c]).length by simp, List.take_left' rfl]
  unfold emit_one.f
  rw [if_pos (by omega), hb0, if_neg (by omega), if_neg (by omega), if_neg (by omega), cutPrefix_eq, if_pos hpre]
  simp only [Option.bind_some, if_true]
  exact scan_to _ (by omega) a c r hx ha hc res K (hres _ hu) a.length k 0 (by omega) (by omega) (by omega)
theorem read_at (u : ByteArray) (l : List UInt8) (h : L u = l) (res : Int × Int × Int × ByteArray) (hr : emit_read.f 40 (⟨l.toArray⟩ : ByteArray) = some res) : ∀ k, 40 ≤ k → emit_read.f k u = some res := by
  have : u = ⟨l.toArray⟩ := L_inj h
  subst this
  intro k hk
  exact at_rounds (g := fun k => emit_read.f k (⟨l.toArray⟩ : ByteArray)) (emit_read.mono _) hk hr
end Go.Proofs.Ytddkmhkglmcihaa.Q
