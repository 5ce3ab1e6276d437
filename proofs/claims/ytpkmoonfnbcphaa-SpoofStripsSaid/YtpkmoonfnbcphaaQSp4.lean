/- Plain facts: a value's bytes tell that value again; what a folded text's values are. -/
import Derived.Test.YtpkmoonfnbcphaaQSp3
set_option linter.unusedVariables false
set_option linter.unusedSimpArgs false
namespace Go.Proofs.Ytpkmoonfnbcphaa.Q
open Go.RowKit Go.Proofs.Ytpkmoonfnbcphaa.PAll Go.Proofs.YtpkmoonfnbcphaaW.PrintWords Go.Proofs.YtpkmoonfnbcphaaW.PrintLast Go.Proofs.YtpkmoonfnbcphaaW.PrintMore
theorem asc8 (v : Int) (h0 : 0 ≤ v) (h1 : v < 256) : ((UInt8.ofNat v.toNat).toNat : Int) = v := by
  rw [UInt8.toNat_ofNat']
  omega
def pointB (v : Int) : Prop := (0 ≤ v ∧ v < 55296) ∨ (57343 < v ∧ v ≤ 1114111)
theorem g1 (a b : UInt8) (l : List UInt8) : g (a :: b :: l) 1 = (b.toNat : Int) := rfl
theorem g2 (a b c : UInt8) (l : List UInt8) : g (a :: b :: c :: l) 2 = (c.toNat : Int) := rfl
theorem g3 (a b c d : UInt8) (l : List UInt8) : g (a :: b :: c :: d :: l) 3 = (d.toNat : Int) := rfl
theorem enc_one (v : Int) (hv : pointB v) (r : List UInt8) : one (encS v ++ r) = (v, (encS v).length) := by
  have h0 : 0 ≤ v := by unfold pointB at hv; omega
  have h1 : v ≤ 1114111 := by unfold pointB at hv; omega
  unfold one encS encI
  generalize hN : r.length = N
  by_cases c1 : v < 128
  · rw [if_pos c1]
    simp only [List.map_cons, List.map_nil, List.cons_append, List.nil_append, List.length_cons, List.length_nil, g_cons]
    rw [asc8 v h0 (by omega), oneI_1 _ _ _ _ _ c1]
    rfl
  rw [if_neg c1]
  by_cases c2 : v < 2048
  · rw [if_pos c2]
    simp only [List.map_cons, List.map_nil, List.cons_append, List.nil_append, List.length_cons, List.length_nil, g_cons, g1]
    rw [asc8 (192 + v / 64) (by omega) (by omega), asc8 (128 + v % 64) (by omega) (by omega), oneI_2 _ _ _ _ _ ⟨by omega, by omega, by rw [hN]; omega, by omega, by omega, .inr ⟨by omega, by omega, by omega, by omega⟩⟩]
    simp only [Prod.mk.injEq]
    exact ⟨by omega, rfl⟩
  rw [if_neg c2]
  by_cases c3 : v < 65536
  · rw [if_pos c3]
    simp only [List.map_cons, List.map_nil, List.cons_append, List.nil_append, List.length_cons, List.length_nil, g_cons, g1, g2]
    unfold pointB at hv
    rw [asc8 (224 + v / 4096) (by omega) (by omega), asc8 (128 + v % 64) (by omega) (by omega), asc8 (128 + v / 64 % 64) (by omega) (by omega), oneI_3 _ _ _ _ _ ⟨by omega, by omega, by rw [hN]; omega, ⟨by omega, by omega, .inr ⟨by omega, by omega, by omega, by omega⟩⟩, by omega, by omega, .inl (by decide)⟩]
    simp only [Prod.mk.injEq]
    exact ⟨by omega, rfl⟩
  rw [if_neg c3, if_pos h1]
  simp only [List.map_cons, List.map_nil, List.cons_append, List.nil_append, List.length_cons, List.length_nil, g_cons, g1, g2, g3]
  rw [asc8 (240 + v / 262144) (by omega) (by omega), asc8 (128 + v % 64) (by omega) (by omega), asc8 (128 + v / 64 % 64) (by omega) (by omega), asc8 (128 + v / 4096 % 64) (by omega) (by omega), oneI_4 _ _ _ _ _ ⟨by omega, by omega, by rw [hN]; omega, ⟨by omega, by omega, .inr ⟨by omega, by omega, by omega, by omega⟩⟩, ⟨by omega, by omega, .inl (by decide)⟩, by omega, by omega, .inl (by decide)⟩]
  simp only [Prod.mk.injEq]
  exact ⟨by omega, rfl⟩
theorem enc_ne (v : Int) : encS v ≠ [] := by
  intro e
  have := (encS_len v).1
  rw [e] at this
  exact absurd this (by decide)
theorem vals_enc (v : Int) (hv : pointB v) (r : List UInt8) : vals (encS v ++ r) = v :: vals r := by
  rw [vals_cons _ (by simp [enc_ne]), enc_one v hv r]
  simp only
  rw [List.drop_left]
theorem vals_cat (l : List Int) (hl : ∀ v ∈ l, pointB v) : vals (catG encS l) = l := by
  induction l with
  | nil => rfl
  | cons v l ih => rw [catG_cons, vals_enc v (hl v List.mem_cons_self), ih (fun x hx => hl x (List.mem_cons_of_mem _ hx))]
/-- A byte that goes on with something. -/
def contB (x : UInt8) : Prop := 128 ≤ x.toNat ∧ x.toNat ≤ 191
theorem one_cont (x : UInt8) (l : List UInt8) (hx : contB x) : one (x :: l) = (1114112 + (x.toNat : Int), 1) := by
  unfold contB at hx
  unfold one
  rw [g_cons, oneI_0 _ _ _ _ _ (by omega) (fun h => by have := h.1; omega) (fun h => by have := h.1; omega) (fun h => by have := h.1; omega)]
  rfl
theorem skel_stray (v : Int) (h : 1114112 ≤ v) : skelS v = v := by
  rcases skel_cases v with e | e
  · exact e
  · omega
theorem enc_stray (x : UInt8) (h : 128 ≤ x.toNat) : encS (1114112 + (x.toNat : Int)) = [x] := by
  have hx := x.toNat_lt
  unfold encS encI
  rw [if_neg (by omega), if_neg (by omega), if_neg (by omega), if_neg (by omega), show (1114112 + (x.toNat : Int) - 1114112) = (x.toNat : Int) by omega]
  simp
theorem one_cases (l : List UInt8) (h : l ≠ []) : pointB (one l).1 ∨ (∃ x t, l = x :: t ∧ 128 ≤ x.toNat ∧ one l = (1114112 + (x.toNat : Int), 1)) := by
  have hr := (right_iff _).mp (one_right l h)
  obtain ⟨x, t, rfl⟩ := List.exists_cons_of_ne_nil h
  by_cases c : (one (x :: t)).1 ≤ 1114111
  · left; unfold pointB; omega
  · right
    refine ⟨x, t, rfl, ?_⟩
    have r0 := g_range (x :: t) 0
    have r1 := g_range (x :: t) 1
    have r2 := g_range (x :: t) 2
    have r3 := g_range (x :: t) 3
    clear hr
    unfold one at c ⊢
    rw [g_cons] at *
    generalize g (x :: t) 1 = b1 at *
    generalize g (x :: t) 2 = b2 at *
    generalize g (x :: t) 3 = b3 at *
    generalize ((x :: t).length : Int) = N at *
    by_cases c0 : (x.toNat : Int) < 128
    · rw [oneI_1 _ _ _ _ _ c0] at c; simp only at c; omega
    by_cases c2 : 194 ≤ (x.toNat : Int) ∧ (x.toNat : Int) ≤ 223 ∧ 1 < N ∧ mayP x.toNat b1 1
    · rw [oneI_2 _ _ _ _ _ c2] at c; simp only at c; omega
    by_cases c3 : 224 ≤ (x.toNat : Int) ∧ (x.toNat : Int) ≤ 239 ∧ 2 < N ∧ mayP x.toNat b1 1 ∧ mayP x.toNat b2 2
    · rw [oneI_3 _ _ _ _ _ c3] at c; simp only at c; omega
    by_cases c4 : 240 ≤ (x.toNat : Int) ∧ (x.toNat : Int) ≤ 244 ∧ 3 < N ∧ mayP x.toNat b1 1 ∧ mayP x.toNat b2 2 ∧ mayP x.toNat b3 3
    · rw [oneI_4 _ _ _ _ _ c4] at c
      obtain ⟨a1, a2, _, ⟨a3, a4, a5⟩, ⟨a6, a7, _⟩, a8, a9, _⟩ := c4
      simp only at c
      rcases a5 with a5 | ⟨p1, p2, p3, p4⟩
      · omega
      · by_cases e : (x.toNat : Int) = 244
        · have := fun h => p4 ⟨e, h⟩; omega
        · omega
    rw [oneI_0 _ _ _ _ _ c0 c2 c3 c4]
    exact ⟨by omega, rfl⟩
/-- What a text looks like. -/
def foldL (l : List UInt8) : List UInt8 := catG foldS (vals l)
theorem foldL_cons (l : List UInt8) (h : l ≠ []) : foldL l = foldS (one l).1 ++ foldL (l.drop (one l).2) := by
  unfold foldL
  rw [vals_cons l h, catG_cons]
theorem foldS_stray (x : UInt8) (h : 128 ≤ x.toNat) : foldS (1114112 + (x.toNat : Int)) = [x] := by
  unfold foldS
  rw [skel_stray _ (by omega), enc_stray x h]
theorem foldL_conts (cs r : List UInt8) (hc : ∀ x ∈ cs, contB x) : foldL (cs ++ r) = cs ++ foldL r := by
  induction cs with
  | nil => rfl
  | cons x cs ih =>
    have hx := hc x List.mem_cons_self
    rw [List.cons_append, foldL_cons _ (by simp), one_cont x _ hx]
    simp only [List.drop_succ_cons, List.drop_zero]
    rw [foldS_stray x hx.1, ih (fun y hy => hc y (List.mem_cons_of_mem _ hy))]
    rfl
theorem fresh_enc (v : Int) (hv : pointB v) (r : List UInt8) : Fresh (encS v ++ r) := by
  right
  have h0 : 0 ≤ v := by unfold pointB at hv; omega
  have h1 : v ≤ 1114111 := by unfold pointB at hv; omega
  unfold encS encI
  repeat' split
  all_goals simp only [List.map_cons, List.map_nil, List.cons_append, List.nil_append, g_cons]
  · left; rw [asc8 v h0 (by omega)]; omega
  · right; rw [asc8 _ (by omega) (by omega)]; omega
  · right; rw [asc8 _ (by omega) (by omega)]; omega
  · right; rw [asc8 _ (by omega) (by omega)]; omega
theorem skel_point (v : Int) (hv : pointB v) : pointB (skelS v) := by
  rcases skel_cases v with h | h
  · rw [h]; exact hv
  · unfold pointB; omega
theorem fresh_fold (r : List UInt8) (h : r = [] ∨ ∃ x t, r = x :: t ∧ ¬ contB x) : Fresh (foldL r) := by
  rcases h with rfl | ⟨x, t, rfl, hx⟩
  · exact .inl rfl
  · rw [foldL_cons _ (by simp)]
    rcases one_cases (x :: t) (by simp) with hp | ⟨y, s, e, hy, ho⟩
    · exact fresh_enc _ (skel_point _ hp) _
    · obtain ⟨rfl, rfl⟩ := List.cons.inj e
      rw [ho]
      simp only
      rw [foldS_stray x hy]
      right; right
      rw [List.cons_append, g_cons]
      unfold contB at hx
      omega
theorem fresh_raw (r : List UInt8) (h : r = [] ∨ ∃ x t, r = x :: t ∧ ¬ contB x) : Fresh r := by
  rcases h with rfl | ⟨x, t, rfl, hx⟩
  · exact .inl rfl
  · right
    rw [g_cons]
    unfold contB at hx
    omega
theorem span_conts (l : List UInt8) : ∃ cs r, l = cs ++ r ∧ (∀ x ∈ cs, contB x) ∧ (r = [] ∨ ∃ x t, r = x :: t ∧ ¬ contB x) := by
  induction l with
  | nil => exact ⟨[], [], rfl, (fun x hx => by cases hx), .inl rfl⟩
  | cons x l ih =>
    by_cases c : contB x
    · obtain ⟨cs, r, h1, h2, h3⟩ := ih
      refine ⟨x :: cs, r, by rw [h1]; rfl, fun y hy => ?_, h3⟩
      rcases List.mem_cons.mp hy with rfl | hy
      · exact c
      · exact h2 y hy
    · exact ⟨[], x :: l, rfl, (fun y hy => by cases hy), .inr ⟨x, l, rfl, c⟩⟩
theorem vals_fold : ∀ (n : Nat) (l : List UInt8), l.length ≤ n → vals (foldL l) = (vals l).map skelS := by
  intro n
  induction n with
  | zero =>
    intro l hl
    have : l = [] := List.eq_nil_of_length_eq_zero (by omega)
    subst this
    rfl
  | succ n ih =>
    intro l hl
    by_cases h : l = []
    · subst h; rfl
    have w := one_width l h
    have hi := ih (l.drop (one l).2) (by rw [List.length_drop]; omega)
    rw [foldL_cons l h, vals_cons l h, List.map_cons, ← hi]
    rcases one_cases l h with hp | ⟨x, t, rfl, hx, ho⟩
    · exact vals_enc _ (skel_point _ hp) _
    · rw [ho]
      simp only [List.drop_succ_cons, List.drop_zero]
      rw [foldS_stray x hx, skel_stray _ (by omega)]
      obtain ⟨cs, r, rfl, h2, h3⟩ := span_conts t
      have e1 : one (x :: (cs ++ r)) = one (x :: cs) := one_app (x :: cs) r (by simp) (fresh_raw r h3)
      have e2 : one (x :: (cs ++ foldL r)) = one (x :: cs) := one_app (x :: cs) (foldL r) (by simp) (fresh_fold r h3)
      rw [foldL_conts cs r h2]
      show vals (x :: (cs ++ foldL r)) = _
      rw [vals_cons _ (by simp), e2, ← e1, ho]
      rfl
theorem fold_fold (l : List UInt8) : foldL (foldL l) = foldL l := by
  have h := vals_fold l.length l (Nat.le_refl _)
  show catG foldS (vals (foldL l)) = catG foldS (vals l)
  rw [h]
  unfold catG
  rw [List.map_map]
  congr 1
  refine List.map_congr_left (fun v _ => ?_)
  show encS (skelS (skelS v)) = encS (skelS v)
  rw [skel_idem]
end Go.Proofs.Ytpkmoonfnbcphaa.Q
