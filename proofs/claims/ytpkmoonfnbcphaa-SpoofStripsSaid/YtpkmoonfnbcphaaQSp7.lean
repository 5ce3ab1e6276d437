/- Plain facts: a told text, and a stripped one, have nothing dangerous. -/
import Derived.Test.YtpkmoonfnbcphaaQSp6
set_option linter.unusedVariables false
set_option linter.unusedSimpArgs false
namespace Go.Proofs.Ytpkmoonfnbcphaa.Q
open Go.RowKit Go.Proofs.Ytpkmoonfnbcphaa.PAll Go.Proofs.YtpkmoonfnbcphaaW.PrintWords Go.Proofs.YtpkmoonfnbcphaaW.PrintLast Go.Proofs.YtpkmoonfnbcphaaW.PrintMore
/-- A code point that is not dangerous. -/
def safeB (v : Int) : Prop := pointB v ∧ ofS v ≤ 3
theorem asc_of : (List.range 95).all (fun n => decide (ofS ((n + 32 : Nat) : Int) ≤ 3)) = true := by decide +kernel
theorem asc_safe (v : Int) (h0 : 32 ≤ v) (h1 : v ≤ 126) : safeB v := by
  refine ⟨by unfold pointB; omega, ?_⟩
  have := of_decide_eq_true (List.all_eq_true.mp asc_of (v.toNat - 32) (List.mem_range.mpr (by omega)))
  rw [show ((v.toNat - 32 + 32 : Nat) : Int) = v by omega] at this
  exact this
/-- The values of a value's shown text. -/
def tellV (v : Int) : List Int := if ofS v ≤ 3 then [v] else (txtS v).map fun x => (x.toNat : Int)
theorem enc_asc (x : UInt8) (h : x.toNat < 128) : encS (x.toNat : Int) = [x] := by
  unfold encS encI
  rw [if_pos (by omega)]
  simp
theorem cat_asc (l : List UInt8) (h : ∀ x ∈ l, x.toNat < 128) : catG encS (l.map fun x => (x.toNat : Int)) = l := by
  induction l with
  | nil => rfl
  | cons x l ih => rw [List.map_cons, catG_cons, enc_asc x (h x List.mem_cons_self), ih (fun y hy => h y (List.mem_cons_of_mem _ hy))]; rfl
theorem hexW_bytes (w n : Nat) : ∀ x ∈ hexW w n, 48 ≤ x.toNat ∧ x.toNat ≤ 70 := by
  unfold hexW
  exact hexN_bytes _ _
theorem txt_asc (v : Int) (hv : rightB v = true) (h : ¬ ofS v ≤ 3) : ∀ x ∈ txtS v, 32 ≤ x.toNat ∧ x.toNat ≤ 126 := by
  obtain ⟨f1, f2, f3⟩ := of_facts v hv
  have hr := (right_iff v).mp hv
  intro x hx
  unfold txtS at hx
  rw [if_neg (by omega), if_neg h] at hx
  split at hx
  · rename_i c4
    have := f2 c4
    rcases List.mem_cons.mp hx with rfl | hx
    · decide
    · unfold encS encI at hx
      rw [if_pos (by omega)] at hx
      simp only [List.map_cons, List.map_nil, List.mem_singleton] at hx
      rw [hx, UInt8.toNat_ofNat']
      omega
  · split at hx
    · rcases List.mem_cons.mp hx with rfl | hx
      · decide
      · rw [List.mem_singleton.mp hx]; decide
    · split at hx
      · rcases List.mem_cons.mp hx with rfl | hx
        · decide
        · rcases List.mem_cons.mp hx with rfl | hx
          · decide
          · have := hexW_bytes _ _ x hx; omega
      · rcases List.mem_cons.mp hx with rfl | hx
        · decide
        · rcases List.mem_cons.mp hx with rfl | hx
          · decide
          · rcases List.mem_cons.mp hx with rfl | hx
            · decide
            · rcases List.mem_append.mp hx with hx | hx
              · have := hexW_bytes _ _ x hx; omega
              · rw [List.mem_singleton.mp hx]; decide
theorem of_point (v : Int) (hv : rightB v = true) (h : ofS v ≤ 3) : safeB v := by
  obtain ⟨f1, f2, f3⟩ := of_facts v hv
  have hr := (right_iff v).mp hv
  refine ⟨?_, h⟩
  unfold pointB
  have : ¬ v > 1114111 := fun c => by have := f3.mpr c; omega
  omega
theorem tell_ok (v : Int) (hv : rightB v = true) : catG encS (tellV v) = txtS v ∧ ∀ x ∈ tellV v, safeB x := by
  obtain ⟨f1, f2, f3⟩ := of_facts v hv
  unfold tellV
  by_cases c : ofS v ≤ 3
  · rw [if_pos c]
    refine ⟨?_, fun x hx => ?_⟩
    · unfold txtS
      rw [if_neg (by omega), if_pos c, catG_cons, catG_nil, List.append_nil]
    · rw [List.mem_singleton.mp hx]
      exact of_point v hv c
  · rw [if_neg c]
    have ht := txt_asc v hv c
    refine ⟨cat_asc _ (fun x hx => by have := ht x hx; omega), fun x hx => ?_⟩
    obtain ⟨y, hy, rfl⟩ := List.mem_map.mp hx
    have := ht y hy
    exact asc_safe _ (by omega) (by omega)
theorem tell_list (vs : List Int) (hr : ∀ v ∈ vs, rightB v = true) : ∃ us, catG txtS vs = catG encS us ∧ ∀ x ∈ us, safeB x := by
  induction vs with
  | nil => exact ⟨[], rfl, by simp⟩
  | cons v vs ih =>
    obtain ⟨us, h1, h2⟩ := ih (fun x hx => hr x (List.mem_cons_of_mem _ hx))
    obtain ⟨g1, g2⟩ := tell_ok v (hr v List.mem_cons_self)
    refine ⟨tellV v ++ us, by rw [catG_cons, catG_app, h1, g1], fun x hx => ?_⟩
    rcases List.mem_append.mp hx with h | h
    · exact g2 x h
    · exact h2 x h
theorem strip_list (vs : List Int) (hr : ∀ v ∈ vs, rightB v = true) : ∃ us, catG stripS vs = catG encS us ∧ ∀ x ∈ us, safeB x := by
  induction vs with
  | nil => exact ⟨[], rfl, by simp⟩
  | cons v vs ih =>
    obtain ⟨us, h1, h2⟩ := ih (fun x hx => hr x (List.mem_cons_of_mem _ hx))
    by_cases c : ofS v ≤ 3
    · refine ⟨v :: us, ?_, fun x hx => ?_⟩
      · rw [catG_cons, catG_cons, h1]
        unfold stripS
        rw [if_pos c]
      · rcases List.mem_cons.mp hx with rfl | h
        · exact of_point _ (hr _ List.mem_cons_self) c
        · exact h2 x h
    · refine ⟨us, ?_, h2⟩
      rw [catG_cons, h1]
      unfold stripS
      rw [if_neg c]
      rfl
theorem strip_safe (us : List Int) (h : ∀ x ∈ us, safeB x) : stripL (catG encS us) = catG encS us := by
  unfold stripL
  rw [vals_cat us (fun x hx => (h x hx).1)]
  unfold catG
  congr 1
  refine List.map_congr_left (fun x hx => ?_)
  unfold stripS
  rw [if_pos (h x hx).2]
end Go.Proofs.Ytpkmoonfnbcphaa.Q
