-- Printed for this claim by the session's own program (wip/tool/hprint.py) over the kit's print; some functions' texts are the session's own.
import Derived.Test.YtddkmhkglmcihaaDoorPAllx0
import Derived.Test.YtddkmhkglmcihaaDoorPAllx2
import Derived.Test.YtddkmhkglmcihaaDoorPAllx3
namespace Go.Proofs.YtddkmhkglmcihaaDoor.PAll
open Go.RowKit Go.Proofs.YtddkmhkglmcihaaDoorW.PrintWords Go.Proofs.YtddkmhkglmcihaaDoorW.PrintLast Go.Proofs.YtddkmhkglmcihaaDoorW.PrintMore
attribute [local go_sem] max2_int min2_int max_two min_two max_three min_three max_four min_four   -- for this text's walks alone
set_option linter.unusedVariables false
set_option linter.unusedSimpArgs false

/-! ### num_Unhex: function 35 -/
mutual
def num_Unhex.j0 : Nat → ByteArray → Bool → Option (Int × Int)
  | 0, _, _ => none
  | k + 1, x0, x13 => if x13 = true then (some (0, 6)) else (num_Unhex.l0 k x0 0 (x0.size : Int) 0)
def num_Unhex.l0 : Nat → ByteArray → Int → Int → Int → Option (Int × Int)
  | 0, _, _, _, _ => none
  | k + 1, x0, x4, x15, x16 => if x16 < x15 then (if 0 ≤ x16 then (if x16 < (x0.size : Int) then ((strings_IndexByte.f (⟨#[48, 49, 50, 51, 52, 53, 54, 55, 56, 57, 65, 66, 67, 68, 69, 70]⟩ : ByteArray) (bt x0 x16)).bind fun t166 => (if t166 < 0 then (some (0, 6)) else (num_Unhex.l0 k x0 (wrap64 ((wrap64 (16 * x4)) + t166)) x15 (wrap64 (x16 + 1))))) else (none)) else (none)) else (some (x4, 0))
end
def num_Unhex.f (k : Nat) (a0 : ByteArray) : Option (Int × Int) := if a0.toList = ([] : List UInt8) then (num_Unhex.j0 k a0 true) else (num_Unhex.j0 k a0 (decide ((a0.size : Int) > 15)))
theorem num_Unhex.mono_l : ∀ k, (∀ y0 y1, LeO (num_Unhex.j0 k y0 y1) (num_Unhex.j0 (k + 1) y0 y1)) ∧ (∀ y0 y1 y2 y3, LeO (num_Unhex.l0 k y0 y1 y2 y3) (num_Unhex.l0 (k + 1) y0 y1 y2 y3))
  | 0 => ⟨fun _ _ r h => by simp [num_Unhex.j0] at h, fun _ _ _ _ r h => by simp [num_Unhex.l0] at h⟩
  | k + 1 => by
    obtain ⟨ih0, ih1⟩ := num_Unhex.mono_l k
    refine ⟨?_, ?_⟩
    · intro y0 y1
      unfold num_Unhex.j0
      repeat' first
      | (with_reducible exact ih0 _ _)
      | (with_reducible exact ih1 _ _ _ _)
      | (with_reducible exact LeO.refl _)
      | (with_reducible exact LeO.none _)
      | (with_reducible refine LeO.ite ?_ ?_)
      | (with_reducible refine LeO.bind ?_ (fun _ => ?_))
      | exact ih0 _ _
      | exact ih1 _ _ _ _
      | exact LeO.none _
      | refine LeO.ite ?_ ?_
      | refine LeO.bind ?_ (fun _ => ?_)
    · intro y0 y1 y2 y3
      unfold num_Unhex.l0
      repeat' first
      | (with_reducible exact ih0 _ _)
      | (with_reducible exact ih1 _ _ _ _)
      | (with_reducible exact LeO.refl _)
      | (with_reducible exact LeO.none _)
      | (with_reducible refine LeO.ite ?_ ?_)
      | (with_reducible refine LeO.bind ?_ (fun _ => ?_))
      | exact ih0 _ _
      | exact ih1 _ _ _ _
      | exact LeO.none _
      | refine LeO.ite ?_ ?_
      | refine LeO.bind ?_ (fun _ => ?_)
theorem num_Unhex.mono : ∀ a0 k, LeO (num_Unhex.f k a0) (num_Unhex.f (k + 1) a0) := by
  intro a0 k
  obtain ⟨ih0, ih1⟩ := num_Unhex.mono_l k
  unfold num_Unhex.f
  repeat' first
      | (with_reducible exact ih0 _ _)
      | (with_reducible exact ih1 _ _ _ _)
      | (with_reducible exact LeO.refl _)
      | (with_reducible exact LeO.none _)
      | (with_reducible refine LeO.ite ?_ ?_)
      | (with_reducible refine LeO.bind ?_ (fun _ => ?_))
      | exact ih0 _ _
      | exact ih1 _ _ _ _
      | exact LeO.none _
      | refine LeO.ite ?_ ?_
      | refine LeO.bind ?_ (fun _ => ?_)
set_option maxHeartbeats 8000000 in
set_option maxRecDepth 100000 in
theorem num_Unhex.calls (k : Nat) (a0 : ByteArray) (r1 : Int) (r2 : Int) (w : World) (h : num_Unhex.f k a0 = some (r1, r2)) :
    Calls Tryd.prog 35 #[.string a0] w fun e w' => e = .returned (.tuple #[.int .i64 r1, .int .i64 r2]) ∧ Drawn0 w w' := by
  have H : (if a0.toList = ([] : List UInt8) then (num_Unhex.j0 k a0 true) else (num_Unhex.j0 k a0 (decide ((a0.size : Int) > 15)))) = some (r1, r2) := h
  clear h
  have HC2 := Aside0.mk H
  clear H
  go_enter Tryd.func35, Tryd.ntmps35
  go_upto_region 1 with (fail)
  go_cut [13] (fun v13 wc => ∃ (kq : Nat) (x13_1 : Bool), v13 = .bool x13_1 ∧ Aside0 (num_Unhex.j0 kq a0 x13_1 = some (r1, r2)) ∧ Aside0 (kq ≤ k) ∧ Drawn0 w wc)
  case first =>
    have H := HC2.out
    clear HC2
    by_cases c3 : a0.toList = ([] : List UInt8)
    · rw [if_pos c3] at H
      have c3b0 : (a0.toList == ([] : List UInt8)) = true := beq_iff_eq.mpr c3
      have c3b1 : (a0.toList != ([] : List UInt8)) = false := bne_eq_false_iff_eq.mpr c3
      clear c3
      (first | rw [c3b0] | (simp only [i64_w, i32_w]; rw [c3b0]) | skip)
      have H' := Aside0.mk H
      clear H
      go_wp2
      go_meet
      case rel => exact ⟨_, (true), (by first | rfl | (simp; done) | (simp [*]; done)), H', ⟨by first | omega | exact Nat.le_refl _⟩, by repeat (first | exact Drawn0.refl _ | apply Drawn0.step)⟩
    · rw [if_neg c3] at H
      have c3b0 : (a0.toList == ([] : List UInt8)) = false := beq_eq_false_iff_ne.mpr c3
      have c3b1 : (a0.toList != ([] : List UInt8)) = true := bne_iff_ne.mpr c3
      (first | rw [c3b0] | (simp only [i64_w, i32_w]; rw [c3b0]) | skip)
      have H' := Aside0.mk H
      clear H
      go_wp2
      go_meet
      case rel => exact ⟨_, (decide ((a0.size : Int) > 15)), (by first | rfl | (simp; done) | (simp [*]; done)), H', ⟨by first | omega | exact Nat.le_refl _⟩, by repeat (first | exact Drawn0.refl _ | apply Drawn0.step)⟩
  case rest =>
    clear HC2
    try clear p2
    try clear c3
    try clear c3b0
    try clear c3b1
    obtain ⟨kq, x13_1, rfl, HA, HJ1, ⟨mc1, rfl⟩⟩ := hcut
    cases kq with
    | zero => exact absurd HA.out (by simp [num_Unhex.j0])
    | succ kj1 =>
      have H := HA.out
      clear HA
      simp only [num_Unhex.j0] at H
      by_cases c4 : x13_1 = true
      · subst c4
        have H1 : (some (0, 6)) = some (r1, r2) := by rw [if_pos rfl] at H; exact H
        clear H
        have H := H1
        clear H1
        simp only [Option.some.injEq, Prod.mk.injEq] at H
        obtain ⟨rfl, rfl⟩ := H
        go_wp2
        go_ret2
        exact ⟨by first | rfl | (simp; done) | (simp [*]; done), by repeat (first | exact Drawn0.refl _ | apply Drawn0.step)⟩
      · replace c4 := Bool.eq_false_iff.mpr c4
        subst c4
        have H1 : (num_Unhex.l0 kj1 a0 0 (a0.size : Int) 0) = some (r1, r2) := by rw [if_neg (show ¬ (false = true) by decide)] at H; exact H
        clear H
        have H := H1
        clear H1
        have H' := Aside0.mk H
        clear H
        go_wp2
        go_loopg [4, 16] kj1 (fun kq v4 v16 w' => ∃ (x4_2 : Int) (x16_2 : Int), v4 = .int .i64 x4_2 ∧ v16 = .int .i64 x16_2 ∧ Aside0 (num_Unhex.l0 kq a0 x4_2 (a0.size : Int) x16_2 = some (r1, r2)) ∧ Aside0 (kq ≤ kj1) ∧ Drawn0 w w')
        case atStart => exact ⟨(0), (0), (by first | rfl | (simp; done) | (simp [*]; done)), (by first | rfl | (simp; done) | (simp [*]; done)), H', ⟨Nat.le_refl _⟩, by repeat (first | exact Drawn0.refl _ | apply Drawn0.step)⟩
        case round =>
          clear H'
          try clear c1
          try clear p2
          try clear c3
          try clear c3b0
          try clear c3b1
          try clear c4
          try clear p2
          obtain ⟨x4_2, x16_2, rfl, rfl, HA, HK2, ⟨m2, rfl⟩⟩ := hrel
          cases gk with
          | zero => exact absurd HA.out (by simp [num_Unhex.l0])
          | succ k2 =>
            have H := HA.out
            clear HA
            simp only [num_Unhex.l0] at H
            by_cases c5 : x16_2 < (a0.size : Int)
            · rw [if_pos c5] at H
              have c5b0 : decide (x16_2 < (a0.size : Int)) = true := decide_eq_true c5
              clear c5
              by_cases c6 : 0 ≤ x16_2
              · rw [if_pos c6] at H
                have c6b0 : decide (0 ≤ x16_2) = true := decide_eq_true c6
                clear c6
                by_cases c7 : x16_2 < (a0.size : Int)
                · rw [if_pos c7] at H
                  have c7b0 : decide (x16_2 < (a0.size : Int)) = true := decide_eq_true c7
                  clear c7
                  replace H := Option.bind_eq_some_iff.mp H
                  obtain ⟨t166, A90, H⟩ := H
                  replace H : (if t166 < 0 then (some (0, 6)) else (num_Unhex.l0 k2 a0 (wrap64 ((wrap64 (16 * x4_2)) + t166)) (a0.size : Int) (wrap64 (x16_2 + 1)))) = some (r1, r2) := H
                  have A9 := Aside0.mk A90
                  clear A90
                  by_cases c10 : t166 < 0
                  · rw [if_pos c10] at H
                    have c10b0 : decide (t166 < 0) = true := decide_eq_true c10
                    clear c10
                    simp only [Option.some.injEq, Prod.mk.injEq] at H
                    obtain ⟨rfl, rfl⟩ := H
                    have p8 : 0 ≤ (x16_2 : Int) := of_decide_eq_true (by first | (with_reducible assumption) | assumption)
                    have q8 : x16_2 < (a0.size : Int) := of_decide_eq_true (by first | (with_reducible assumption) | assumption)
                    have hx8 := bt_at a0 x16_2
                    replace p8 := eq_true p8
                    replace q8 := eq_true q8
                    go_wp2_with (first | ((with_reducible refine gate_callee (f := 47) rfl ?_); refine goesL_ (some 22) rfl rfl Tryd.func47 (by kernel_rfl) rfl #[.string (⟨#[48, 49, 50, 51, 52, 53, 54, 55, 56, 57, 65, 66, 67, 68, 69, 70]⟩ : ByteArray), .int .u8 (bt a0 x16_2)] rfl (by (try simp only [List.map_toArray, List.map_cons, List.map_nil]); first | done | rfl | (simp only [List.length_drop, List.length_take]; rfl)) ?_; (with_reducible refine (strings_IndexByte.calls (⟨#[48, 49, 50, 51, 52, 53, 54, 55, 56, 57, 65, 66, 67, 68, 69, 70]⟩ : ByteArray) (bt a0 x16_2) t166 _ A9.out).mono ?_); rintro e w' ⟨rfl, ⟨nd, rfl⟩⟩; refine ⟨_, rfl, ?_⟩))
                    go_ret2
                    exact ⟨by first | rfl | (simp; done) | (simp [*]; done), by repeat (first | exact Drawn0.refl _ | apply Drawn0.step)⟩
                  · rw [if_neg c10] at H
                    have c10b0 : decide (t166 < 0) = false := decide_eq_false c10
                    clear c10
                    have H' := Aside0.mk H
                    clear H
                    have p8 : 0 ≤ (x16_2 : Int) := of_decide_eq_true (by first | (with_reducible assumption) | assumption)
                    have q8 : x16_2 < (a0.size : Int) := of_decide_eq_true (by first | (with_reducible assumption) | assumption)
                    have hx8 := bt_at a0 x16_2
                    replace p8 := eq_true p8
                    replace q8 := eq_true q8
                    go_wp2_with (first | ((with_reducible refine gate_callee (f := 47) rfl ?_); refine goesL_ (some 22) rfl rfl Tryd.func47 (by kernel_rfl) rfl #[.string (⟨#[48, 49, 50, 51, 52, 53, 54, 55, 56, 57, 65, 66, 67, 68, 69, 70]⟩ : ByteArray), .int .u8 (bt a0 x16_2)] rfl (by (try simp only [List.map_toArray, List.map_cons, List.map_nil]); first | done | rfl | (simp only [List.length_drop, List.length_take]; rfl)) ?_; (with_reducible refine (strings_IndexByte.calls (⟨#[48, 49, 50, 51, 52, 53, 54, 55, 56, 57, 65, 66, 67, 68, 69, 70]⟩ : ByteArray) (bt a0 x16_2) t166 _ A9.out).mono ?_); rintro e w' ⟨rfl, ⟨nd, rfl⟩⟩; refine ⟨_, rfl, ?_⟩))
                    go_roundg k2
                    case measure => have := HJ1.out; have := HK2.out; omega
                    case rel => exact ⟨(wrap64 ((wrap64 (16 * x4_2)) + t166)), (wrap64 (x16_2 + 1)), (by first | rfl | (simp; done) | (simp [*]; done)), (by first | rfl | (simp; done) | (simp [*]; done)), H', ⟨by have := HJ1.out; have := HK2.out; omega⟩, by repeat (first | exact Drawn0.refl _ | apply Drawn0.step)⟩
                · rw [if_neg c7] at H
                  exact absurd H (by simp)
              · rw [if_neg c6] at H
                exact absurd H (by simp)
            · rw [if_neg c5] at H
              have c5b0 : decide (x16_2 < (a0.size : Int)) = false := decide_eq_false c5
              clear c5
              simp only [Option.some.injEq, Prod.mk.injEq] at H
              obtain ⟨rfl, rfl⟩ := H
              go_wp2
              go_ret2
              exact ⟨by first | rfl | (simp; done) | (simp [*]; done), by repeat (first | exact Drawn0.refl _ | apply Drawn0.step)⟩

/-! ### esc_escaped: function 23 -/
def esc_escaped.j0 : Nat → ByteArray → Bool → Option (Int × Int)
  | 0, _, _ => none
  | k + 1, x4, x21 => if x21 = true then (some (0, 0)) else (if 0 ≤ 6 then (if 6 ≤ (x4.size : Int) then ((num_Unhex.f k (x4.extract 0 6)).bind fun bt170 => (if bt170.2 = 0 then ((utf_Right.f bt170.1).bind fun t172 => (if t172 = true then (some (bt170.1, 8)) else (some (0, 0)))) else (some (0, 0)))) else (none)) else (none))
def esc_escaped.f (k : Nat) (a0 : ByteArray) : Option (Int × Int) := (strings_HasPrefix.f a0 (⟨#[92, 92]⟩ : ByteArray)).bind fun t167 => (if t167 = true then (some (92, 2)) else ((strings_CutPrefix.f a0 (⟨#[92, 117]⟩ : ByteArray)).bind fun bt168 => (if bt168.2 = true then (esc_escaped.j0 k bt168.1 (decide ((bt168.1.size : Int) < 6))) else (esc_escaped.j0 k bt168.1 true))))
theorem esc_escaped.mono_l : ∀ k, (∀ y0 y1, LeO (esc_escaped.j0 k y0 y1) (esc_escaped.j0 (k + 1) y0 y1))
  | 0 => fun _ _ r h => by simp [esc_escaped.j0] at h
  | k + 1 => by
    have ih0 := esc_escaped.mono_l k
    · intro y0 y1
      unfold esc_escaped.j0
      repeat' first
      | (with_reducible exact ih0 _ _)
      | (with_reducible exact num_Unhex.mono _ _)
      | (with_reducible exact LeO.refl _)
      | (with_reducible exact LeO.none _)
      | (with_reducible refine LeO.ite ?_ ?_)
      | (with_reducible refine LeO.bind ?_ (fun _ => ?_))
      | exact ih0 _ _
      | exact num_Unhex.mono _ _
      | exact LeO.none _
      | refine LeO.ite ?_ ?_
      | refine LeO.bind ?_ (fun _ => ?_)
theorem esc_escaped.mono : ∀ a0 k, LeO (esc_escaped.f k a0) (esc_escaped.f (k + 1) a0) := by
  intro a0 k
  have ih0 := esc_escaped.mono_l k
  unfold esc_escaped.f
  repeat' first
      | (with_reducible exact ih0 _ _)
      | (with_reducible exact num_Unhex.mono _ _)
      | (with_reducible exact LeO.refl _)
      | (with_reducible exact LeO.none _)
      | (with_reducible refine LeO.ite ?_ ?_)
      | (with_reducible refine LeO.bind ?_ (fun _ => ?_))
      | exact ih0 _ _
      | exact num_Unhex.mono _ _
      | exact LeO.none _
      | refine LeO.ite ?_ ?_
      | refine LeO.bind ?_ (fun _ => ?_)
set_option maxHeartbeats 8000000 in
set_option maxRecDepth 100000 in
theorem esc_escaped.calls (k : Nat) (a0 : ByteArray) (r1 : Int) (r2 : Int) (w : World) (h : esc_escaped.f k a0 = some (r1, r2)) :
    Calls Tryd.prog 23 #[.string a0] w fun e w' => e = .returned (.tuple #[.int .i64 r1, .int .i64 r2]) ∧ Drawn0 w w' := by
  have H : ((strings_HasPrefix.f a0 (⟨#[92, 92]⟩ : ByteArray)).bind fun t167 => (if t167 = true then (some (92, 2)) else ((strings_CutPrefix.f a0 (⟨#[92, 117]⟩ : ByteArray)).bind fun bt168 => (if bt168.2 = true then (esc_escaped.j0 k bt168.1 (decide ((bt168.1.size : Int) < 6))) else (esc_escaped.j0 k bt168.1 true))))) = some (r1, r2) := h
  clear h
  replace H := Option.bind_eq_some_iff.mp H
  obtain ⟨t167, A20, H⟩ := H
  replace H : (if t167 = true then (some (92, 2)) else ((strings_CutPrefix.f a0 (⟨#[92, 117]⟩ : ByteArray)).bind fun bt168 => (if bt168.2 = true then (esc_escaped.j0 k bt168.1 (decide ((bt168.1.size : Int) < 6))) else (esc_escaped.j0 k bt168.1 true)))) = some (r1, r2) := H
  have A2 := Aside0.mk A20
  clear A20
  by_cases c3 : t167 = true
  · subst c3
    have H1 : (some (92, 2)) = some (r1, r2) := by rw [if_pos rfl] at H; exact H
    clear H
    have H := H1
    clear H1
    simp only [Option.some.injEq, Prod.mk.injEq] at H
    obtain ⟨rfl, rfl⟩ := H
    go_enter Tryd.func23, Tryd.ntmps23
    go_wp2_with (first | ((with_reducible refine gate_callee (f := 33) rfl ?_); refine goesL_ (some 9) rfl rfl Tryd.func33 (by kernel_rfl) rfl #[.string a0, .string (⟨#[92, 92]⟩ : ByteArray)] rfl (by (try simp only [List.map_toArray, List.map_cons, List.map_nil]); first | done | rfl | (simp only [List.length_drop, List.length_take]; rfl)) ?_; (with_reducible refine (strings_HasPrefix.calls a0 (⟨#[92, 92]⟩ : ByteArray) true _ A2.out).mono ?_); rintro e w' ⟨rfl, ⟨nd, rfl⟩⟩; refine ⟨_, rfl, ?_⟩))
    go_ret2
    exact ⟨by first | rfl | (simp; done) | (simp [*]; done), by repeat (first | exact Drawn0.refl _ | apply Drawn0.step)⟩
  · replace c3 := Bool.eq_false_iff.mpr c3
    subst c3
    have H1 : ((strings_CutPrefix.f a0 (⟨#[92, 117]⟩ : ByteArray)).bind fun bt168 => (if bt168.2 = true then (esc_escaped.j0 k bt168.1 (decide ((bt168.1.size : Int) < 6))) else (esc_escaped.j0 k bt168.1 true))) = some (r1, r2) := by rw [if_neg (show ¬ (false = true) by decide)] at H; exact H
    clear H
    have H := H1
    clear H1
    replace H := Option.bind_eq_some_iff.mp H
    obtain ⟨⟨t168, t169⟩, A40, H⟩ := H
    replace H : (if t169 = true then (esc_escaped.j0 k t168 (decide ((t168.size : Int) < 6))) else (esc_escaped.j0 k t168 true)) = some (r1, r2) := H
    have A4 := Aside0.mk A40
    clear A40
    have HC5 := Aside0.mk H
    clear H
    go_enter Tryd.func23, Tryd.ntmps23
    go_upto_region 4 with (first | ((with_reducible refine gate_callee (f := 33) rfl ?_); refine goesL_ (some 9) rfl rfl Tryd.func33 (by kernel_rfl) rfl #[.string a0, .string (⟨#[92, 92]⟩ : ByteArray)] rfl (by (try simp only [List.map_toArray, List.map_cons, List.map_nil]); first | done | rfl | (simp only [List.length_drop, List.length_take]; rfl)) ?_; (with_reducible refine (strings_HasPrefix.calls a0 (⟨#[92, 92]⟩ : ByteArray) false _ A2.out).mono ?_); rintro e w' ⟨rfl, ⟨nd, rfl⟩⟩; refine ⟨_, rfl, ?_⟩) | ((with_reducible refine gate_callee (f := 34) rfl ?_); refine goesL_ (some 12) rfl rfl Tryd.func34 (by kernel_rfl) rfl #[.string a0, .string (⟨#[92, 117]⟩ : ByteArray)] rfl (by (try simp only [List.map_toArray, List.map_cons, List.map_nil]); first | done | rfl | (simp only [List.length_drop, List.length_take]; rfl)) ?_; (with_reducible refine (strings_CutPrefix.calls a0 (⟨#[92, 117]⟩ : ByteArray) t168 t169 _ A4.out).mono ?_); rintro e w' ⟨rfl, ⟨nd, rfl⟩⟩; refine ⟨_, rfl, ?_⟩))
    (try simp only [Act.put, List.setIfInBounds_toArray, List.set_cons_zero, List.set_cons_succ])
    go_cut [21] (fun v21 wc => ∃ (kq : Nat) (x21_4 : Bool), v21 = .bool x21_4 ∧ Aside0 (esc_escaped.j0 kq t168 x21_4 = some (r1, r2)) ∧ Aside0 (kq ≤ k) ∧ Drawn0 w wc)
    case first =>
      have H := HC5.out
      clear HC5
      by_cases c6 : t169 = true
      · subst c6
        have H1 : (esc_escaped.j0 k t168 (decide ((t168.size : Int) < 6))) = some (r1, r2) := by rw [if_pos rfl] at H; exact H
        clear H
        have H := H1
        clear H1
        have H' := Aside0.mk H
        clear H
        go_wp2
        go_meet
        case rel => exact ⟨_, (decide ((t168.size : Int) < 6)), (by first | rfl | (simp; done) | (simp [*]; done)), H', ⟨by first | omega | exact Nat.le_refl _⟩, by repeat (first | exact Drawn0.refl _ | apply Drawn0.step)⟩
      · replace c6 := Bool.eq_false_iff.mpr c6
        subst c6
        have H1 : (esc_escaped.j0 k t168 true) = some (r1, r2) := by rw [if_neg (show ¬ (false = true) by decide)] at H; exact H
        clear H
        have H := H1
        clear H1
        have H' := Aside0.mk H
        clear H
        go_wp2
        go_meet
        case rel => exact ⟨_, (true), (by first | rfl | (simp; done) | (simp [*]; done)), H', ⟨by first | omega | exact Nat.le_refl _⟩, by repeat (first | exact Drawn0.refl _ | apply Drawn0.step)⟩
    case rest =>
      clear HC5
      try clear c2
      try clear p2
      try clear c3
      try clear c6
      obtain ⟨kq, x21_4, rfl, HA, HJ4, ⟨mc4, rfl⟩⟩ := hcut
      cases kq with
      | zero => exact absurd HA.out (by simp [esc_escaped.j0])
      | succ kj4 =>
        have H := HA.out
        clear HA
        simp only [esc_escaped.j0] at H
        by_cases c7 : x21_4 = true
        · subst c7
          have H1 : (some (0, 0)) = some (r1, r2) := by rw [if_pos rfl] at H; exact H
          clear H
          have H := H1
          clear H1
          simp only [Option.some.injEq, Prod.mk.injEq] at H
          obtain ⟨rfl, rfl⟩ := H
          go_wp2
          go_ret2
          exact ⟨by first | rfl | (simp; done) | (simp [*]; done), by repeat (first | exact Drawn0.refl _ | apply Drawn0.step)⟩
        · replace c7 := Bool.eq_false_iff.mpr c7
          subst c7
          have H1 : (if 0 ≤ 6 then (if 6 ≤ (t168.size : Int) then ((num_Unhex.f kj4 (t168.extract 0 6)).bind fun bt170 => (if bt170.2 = 0 then ((utf_Right.f bt170.1).bind fun t172 => (if t172 = true then (some (bt170.1, 8)) else (some (0, 0)))) else (some (0, 0)))) else (none)) else (none)) = some (r1, r2) := by rw [if_neg (show ¬ (false = true) by decide)] at H; exact H
          clear H
          have H := H1
          clear H1
          by_cases c8 : 0 ≤ 6
          · rw [if_pos c8] at H
            have c8b0 := eq_true c8
            have c8b1 : decide (0 ≤ 6) = true := decide_eq_true c8
            clear c8
            by_cases c9 : 6 ≤ (t168.size : Int)
            · rw [if_pos c9] at H
              have c9b0 := eq_true c9
              have c9b1 : decide (6 ≤ (t168.size : Int)) = true := decide_eq_true c9
              clear c9
              replace H := Option.bind_eq_some_iff.mp H
              obtain ⟨⟨t170, t171⟩, A100, H⟩ := H
              replace H : (if t171 = 0 then ((utf_Right.f t170).bind fun t172 => (if t172 = true then (some (t170, 8)) else (some (0, 0)))) else (some (0, 0))) = some (r1, r2) := H
              have A10 := Aside0.mk A100
              clear A100
              by_cases c11 : t171 = 0
              · rw [if_pos c11] at H
                have c11b0 : (t171 == 0) = true := beq_iff_eq.mpr c11
                have c11b1 : (t171 != 0) = false := bne_eq_false_iff_eq.mpr c11
                clear c11
                replace H := Option.bind_eq_some_iff.mp H
                obtain ⟨t172, A120, H⟩ := H
                replace H : (if t172 = true then (some (t170, 8)) else (some (0, 0))) = some (r1, r2) := H
                have A12 := Aside0.mk A120
                clear A120
                by_cases c13 : t172 = true
                · subst c13
                  have H1 : (some (t170, 8)) = some (r1, r2) := by rw [if_pos rfl] at H; exact H
                  clear H
                  have H := H1
                  clear H1
                  simp only [Option.some.injEq, Prod.mk.injEq] at H
                  obtain ⟨rfl, rfl⟩ := H
                  go_wp2_with (first | ((with_reducible refine gate_callee (f := 35) rfl ?_); refine goesL_ (some 25) rfl rfl Tryd.func35 (by kernel_rfl) rfl #[.string (t168.extract 0 6)] rfl (by (try simp only [List.map_toArray, List.map_cons, List.map_nil]); first | done | rfl | (simp only [List.length_drop, List.length_take]; rfl)) ?_; (with_reducible refine (num_Unhex.calls kj4 (t168.extract 0 6) t170 t171 _ A10.out).mono ?_); rintro e w' ⟨rfl, ⟨nd, rfl⟩⟩; refine ⟨_, rfl, ?_⟩) | (go_at_call 36; (with_reducible refine (utf_Right.calls t170 true _ A12.out).mono ?_); rintro e w' ⟨rfl, ⟨nd, rfl⟩⟩))
                  go_ret2
                  exact ⟨by first | rfl | (simp; done) | (simp [*]; done), by repeat (first | exact Drawn0.refl _ | apply Drawn0.step)⟩
                · replace c13 := Bool.eq_false_iff.mpr c13
                  subst c13
                  have H1 : (some (0, 0)) = some (r1, r2) := by rw [if_neg (show ¬ (false = true) by decide)] at H; exact H
                  clear H
                  have H := H1
                  clear H1
                  simp only [Option.some.injEq, Prod.mk.injEq] at H
                  obtain ⟨rfl, rfl⟩ := H
                  go_wp2_with (first | ((with_reducible refine gate_callee (f := 35) rfl ?_); refine goesL_ (some 25) rfl rfl Tryd.func35 (by kernel_rfl) rfl #[.string (t168.extract 0 6)] rfl (by (try simp only [List.map_toArray, List.map_cons, List.map_nil]); first | done | rfl | (simp only [List.length_drop, List.length_take]; rfl)) ?_; (with_reducible refine (num_Unhex.calls kj4 (t168.extract 0 6) t170 t171 _ A10.out).mono ?_); rintro e w' ⟨rfl, ⟨nd, rfl⟩⟩; refine ⟨_, rfl, ?_⟩) | (go_at_call 36; (with_reducible refine (utf_Right.calls t170 false _ A12.out).mono ?_); rintro e w' ⟨rfl, ⟨nd, rfl⟩⟩))
                  go_ret2
                  exact ⟨by first | rfl | (simp; done) | (simp [*]; done), by repeat (first | exact Drawn0.refl _ | apply Drawn0.step)⟩
              · rw [if_neg c11] at H
                have c11b0 : (t171 == 0) = false := beq_eq_false_iff_ne.mpr c11
                have c11b1 : (t171 != 0) = true := bne_iff_ne.mpr c11
                simp only [Option.some.injEq, Prod.mk.injEq] at H
                obtain ⟨rfl, rfl⟩ := H
                go_wp2_with (first | ((with_reducible refine gate_callee (f := 35) rfl ?_); refine goesL_ (some 25) rfl rfl Tryd.func35 (by kernel_rfl) rfl #[.string (t168.extract 0 6)] rfl (by (try simp only [List.map_toArray, List.map_cons, List.map_nil]); first | done | rfl | (simp only [List.length_drop, List.length_take]; rfl)) ?_; (with_reducible refine (num_Unhex.calls kj4 (t168.extract 0 6) t170 t171 _ A10.out).mono ?_); rintro e w' ⟨rfl, ⟨nd, rfl⟩⟩; refine ⟨_, rfl, ?_⟩))
                go_ret2
                exact ⟨by first | rfl | (simp; done) | (simp [*]; done), by repeat (first | exact Drawn0.refl _ | apply Drawn0.step)⟩
            · rw [if_neg c9] at H
              exact absurd H (by simp)
          · rw [if_neg c8] at H
            exact absurd H (by simp)

/-! ### utf_value: function 37 -/
def utf_value.f (a0 : ByteArray) (a1 : Int) : Option (Int) := if a1 = 65533 then ((strings_HasPrefix.f a0 (⟨#[239, 191, 189]⟩ : ByteArray)).bind fun t173 => (if t173 = true then (some (wrap64 (a1))) else (if 0 < (a0.size : Int) then (some (wrap64 (1114112 + (wrap64 (bt a0 0))))) else (none)))) else (some (wrap64 (a1)))
set_option maxHeartbeats 8000000 in
set_option maxRecDepth 100000 in
theorem utf_value.calls (a0 : ByteArray) (a1 : Int) (r : Int) (w : World) (h : utf_value.f a0 a1 = some r) :
    Calls Tryd.prog 37 #[.string a0, .int .i32 a1] w fun e w' => e = .returned (.int .i64 r) ∧ Drawn0 w w' := by
  have H : (if a1 = 65533 then ((strings_HasPrefix.f a0 (⟨#[239, 191, 189]⟩ : ByteArray)).bind fun t173 => (if t173 = true then (some (wrap64 (a1))) else (if 0 < (a0.size : Int) then (some (wrap64 (1114112 + (wrap64 (bt a0 0))))) else (none)))) else (some (wrap64 (a1)))) = some r := h
  clear h
  by_cases c3 : a1 = 65533
  · rw [if_pos c3] at H
    have c3b0 : (a1 == 65533) = true := beq_iff_eq.mpr c3
    have c3b1 : (a1 != 65533) = false := bne_eq_false_iff_eq.mpr c3
    clear c3
    replace H := Option.bind_eq_some_iff.mp H
    obtain ⟨t173, A40, H⟩ := H
    replace H : (if t173 = true then (some (wrap64 (a1))) else (if 0 < (a0.size : Int) then (some (wrap64 (1114112 + (wrap64 (bt a0 0))))) else (none))) = some r := H
    have A4 := Aside0.mk A40
    clear A40
    by_cases c5 : t173 = true
    · subst c5
      have H1 : (some (wrap64 (a1))) = some r := by rw [if_pos rfl] at H; exact H
      clear H
      have H := H1
      clear H1
      obtain rfl := Option.some.inj H
      go_enter Tryd.func37, Tryd.ntmps37
      go_wp2_with (first | (go_at_call 33; (with_reducible refine (strings_HasPrefix.calls a0 (⟨#[239, 191, 189]⟩ : ByteArray) true _ A4.out).mono ?_); rintro e w' ⟨rfl, ⟨nd, rfl⟩⟩))
      go_ret
      exact ⟨by first | rfl | (simp; done) | (simp [*]; done), by repeat (first | exact Drawn0.refl _ | apply Drawn0.step)⟩
    · replace c5 := Bool.eq_false_iff.mpr c5
      subst c5
      have H1 : (if 0 < (a0.size : Int) then (some (wrap64 (1114112 + (wrap64 (bt a0 0))))) else (none)) = some r := by rw [if_neg (show ¬ (false = true) by decide)] at H; exact H
      clear H
      have H := H1
      clear H1
      by_cases c6 : 0 < (a0.size : Int)
      · rw [if_pos c6] at H
        have c6b0 : decide (0 < (a0.size : Int)) = true := decide_eq_true c6
        have c6b1 : decide (0 < a0.size) = true := decide_eq_true (by omega)
        clear c6
        obtain rfl := Option.some.inj H
        go_enter Tryd.func37, Tryd.ntmps37
        go_wp2_with (first | (go_at_call 33; (with_reducible refine (strings_HasPrefix.calls a0 (⟨#[239, 191, 189]⟩ : ByteArray) false _ A4.out).mono ?_); rintro e w' ⟨rfl, ⟨nd, rfl⟩⟩; have p7 : 0 ≤ (0 : Int) := (by omega); have q7 : 0 < a0.size := (by have : (0 : Int) < (a0.size : Int) := of_decide_eq_true (by first | (with_reducible assumption) | assumption); omega); have hx7 : ∀ h : 0 < a0.size, ((a0[0]'h).toNat : Int) = bt a0 0 := bt_at a0 0; clear p7; have qi7 : (0 < (a0.size : Int)) = True := eq_true (of_decide_eq_true (by first | (with_reducible assumption) | assumption)); replace q7 := eq_true q7))
        go_ret
        exact ⟨by first | rfl | (simp; done) | (simp [*]; done), by repeat (first | exact Drawn0.refl _ | apply Drawn0.step)⟩
      · rw [if_neg c6] at H
        exact absurd H (by simp)
  · rw [if_neg c3] at H
    have c3b0 : (a1 == 65533) = false := beq_eq_false_iff_ne.mpr c3
    have c3b1 : (a1 != 65533) = true := bne_iff_ne.mpr c3
    obtain rfl := Option.some.inj H
    go_enter Tryd.func37, Tryd.ntmps37
    go_wp2
    go_ret
    exact ⟨by first | rfl | (simp; done) | (simp [*]; done), by repeat (first | exact Drawn0.refl _ | apply Drawn0.step)⟩

/-! ### utf_One: function 24 -/
def utf_One.v (s : ByteArray) : Int := (utf_value.f s ((Utf8.decode s 0).1 : Int)).getD 0
def utf_One.f (a0 : ByteArray) : Option (Int × Int) := if a0.size = 0 then some (0, 0) else some (utf_One.v a0, ((Utf8.decode a0 0).2 : Int))
theorem utf_One.has (s p : ByteArray) : ∃ b, strings_HasPrefix.f s p = some b := by
  unfold strings_HasPrefix.f stringslite_HasPrefix.f
  repeat' split
  all_goals first | exact ⟨_, rfl⟩ | omega
theorem utf_One.val (s : ByteArray) (r : Int) (h : 0 < s.size) : ∃ v, utf_value.f s r = some v := by
  unfold utf_value.f
  obtain ⟨b, hb⟩ := utf_One.has s (⟨#[239, 191, 189]⟩ : ByteArray)
  rw [hb]
  simp only [Option.bind_some]
  repeat' split
  all_goals first | exact ⟨_, rfl⟩ | omega
theorem utf_One.value_some (s : ByteArray) (h : 0 < s.size) : utf_value.f s ((Utf8.decode s 0).1 : Int) = some (utf_One.v s) := by
  obtain ⟨v, hv⟩ := utf_One.val s ((Utf8.decode s 0).1 : Int) h
  unfold utf_One.v
  rw [hv]
  rfl
theorem utf_One.width (s : ByteArray) (h : 0 < s.size) : (Utf8.decode s 0).2 ≤ s.size := by
  unfold Utf8.decode
  simp only [Nat.zero_add, Bool.and_eq_true, decide_eq_true_eq]
  repeat' split
  all_goals (first | omega | (simp only; omega))
set_option maxHeartbeats 8000000 in
set_option maxRecDepth 100000 in
theorem utf_One.calls (a0 : ByteArray) (r1 r2 : Int) (w : World) (h : utf_One.f a0 = some (r1, r2)) :
    Calls Tryd.prog 24 #[.string a0] w fun e w' => e = .returned (.tuple #[.int .i64 r1, .int .i64 r2]) ∧ Below w.heap.size w w' := by
  go_enter Tryd.func24, Tryd.ntmps24
  go_wp2
  go_loopg [4, 5, 6] 2 (fun b v4 v5 v6 wr => ∃ pos : Nat, wr.heap[w.heap.size]? = some (.stringIter a0 pos) ∧ Aside0 (Below w.heap.size w wr) ∧ v5 = .int .i64 (a0.size : Int) ∧ ((b = 2 ∧ v4 = .int .i64 0 ∧ v6 = .int .i64 0 ∧ pos = 0) ∨ (b = 1 ∧ v4 = .int .i64 (utf_One.v a0) ∧ v6 = .int .i64 1 ∧ pos = (Utf8.decode a0 0).2 ∧ 0 < a0.size)))
  case atStart => exact ⟨0, World.iter_heap w a0 0, ⟨(Below.refl _ _).alloc (Nat.le_refl _) _⟩, rfl, .inl ⟨rfl, rfl, rfl, rfl⟩⟩
  case round =>
    obtain ⟨pos, hit, HB, e5, hcase⟩ := hrel
    subst e5
    rcases hcase with ⟨hk, e4, e6, hpos⟩ | ⟨hk, e4, e6, hpos, h0⟩
    · subst hpos
      by_cases hp : 0 < a0.size
      · have hnx : ∀ ty, (Instr.next (.pointer (some ⟨w.heap.size, 0, none⟩)) true ty).run Tryd.prog wr = _ := fun ty => Lib.run_next_any_at wr w.heap.size a0 0 ty hit hp
        have hv := Aside0.mk (utf_One.value_some a0 hp)
        have hdl := decode_le a0 0
        have hit2 := Lib.iterAt_heap wr w.heap.size a0 0 (0 + (Utf8.decode a0 0).2) hit
        have hbw2 := Lib.below_iterAt HB.out (k := w.heap.size) (Nat.le_refl _) a0 (0 + (Utf8.decode a0 0).2)
        obtain ⟨W1, hW1⟩ : ∃ W1, W1 = wr.iterAt w.heap.size a0 (0 + (Utf8.decode a0 0).2) := ⟨_, rfl⟩
        rw [← hW1] at hnx hit2 hbw2
        have hlt : w.heap.size < W1.heap.size := lt_of_block hit2
        clear hW1 hit HB
        have hit2' := Aside0.mk hit2
        have HB := Aside0.mk hbw2
        have HP := Aside0.mk hp
        clear hit2 hbw2 hp
        subst hk e4 e6
        go_wp2_with (first | ((with_reducible refine gate_callee (f := 37) rfl ?_); refine goesL_ (some 22) rfl rfl Tryd.func37 (by kernel_rfl) rfl #[.string a0, .int .i32 ((Utf8.decode a0 0).1 : Int)] rfl (by (try simp only [List.map_toArray, List.map_cons, List.map_nil]); first | done | rfl) ?_; (with_reducible refine (utf_value.calls _ _ _ _ hv.out).mono ?_); rintro e w' ⟨rfl, ⟨nd, rfl⟩⟩; refine ⟨_, rfl, ?_⟩))
        go_roundg 1
        case measure => omega
        case rel => exact ⟨(Utf8.decode a0 0).2, by rw [Nat.zero_add] at hit2'; exact (by simpa using hit2'.out), ⟨by repeat (first | exact HB.out | apply pw_below_drewN | apply below_drew1)⟩, rfl, .inr ⟨rfl, rfl, rfl, rfl, HP.out⟩⟩
      · have hz : a0.size = 0 := by omega
        have hnx : ∀ ty, (Instr.next (.pointer (some ⟨w.heap.size, 0, none⟩)) true ty).run Tryd.prog wr = _ := fun ty => Lib.run_next_end_at wr w.heap.size a0 0 ty hit hp
        unfold utf_One.f at h
        rw [if_pos hz] at h
        obtain ⟨rfl, rfl⟩ := Prod.mk.inj (Option.some.inj h)
        clear h
        subst hk e4 e6
        have hz2 : (a0.size : Int) = 0 := by omega
        clear hp
        go_wp2
        go_ret2
        exact ⟨by first | rfl | (simp only [hz2]; done) | simp [hz2], HB.out⟩
    · subst hpos
      unfold utf_One.f at h
      rw [if_neg (by omega)] at h
      obtain ⟨rfl, rfl⟩ := Prod.mk.inj (Option.some.inj h)
      clear h
      subst hk e4 e6
      by_cases hp : (Utf8.decode a0 0).2 < a0.size
      · have hnx : ∀ ty, (Instr.next (.pointer (some ⟨w.heap.size, 0, none⟩)) true ty).run Tryd.prog wr = _ := fun ty => Lib.run_next_any_at wr w.heap.size a0 (Utf8.decode a0 0).2 ty hit hp
        have hbw2 := Lib.below_iterAt HB.out (k := w.heap.size) (Nat.le_refl _) a0 ((Utf8.decode a0 0).2 + (Utf8.decode a0 (Utf8.decode a0 0).2).2)
        obtain ⟨W1, hW1⟩ : ∃ W1, W1 = wr.iterAt w.heap.size a0 ((Utf8.decode a0 0).2 + (Utf8.decode a0 (Utf8.decode a0 0).2).2) := ⟨_, rfl⟩
        rw [← hW1] at hnx hbw2
        have HB := Aside0.mk hbw2
        clear hW1 hit hbw2 hp
        go_wp2
        go_ret2
        exact ⟨rfl, HB.out⟩
      · have hnx : ∀ ty, (Instr.next (.pointer (some ⟨w.heap.size, 0, none⟩)) true ty).run Tryd.prog wr = _ := fun ty => Lib.run_next_end_at wr w.heap.size a0 (Utf8.decode a0 0).2 ty hit hp
        have hdl := utf_One.width a0 (by omega)
        have hz2 : (a0.size : Int) = ((Utf8.decode a0 0).2 : Int) := by omega
        clear hp hdl
        go_wp2
        go_ret2
        exact ⟨by first | rfl | (simp only [hz2]; done) | simp [hz2], HB.out⟩

/-! ### esc_Unline: function 13 -/
def esc_Unline.l (k : Nat) (s : ByteArray) (most : Int) : Nat → Nat → Int → List S41 → Option (List S41)
  | 0, _, _, _ => none
  | n + 1, p, past, acc => if p < s.size then (if (p : Int) < past then esc_Unline.l k s most n (p + (Utf8.decode s p).2) past acc else (if (acc.length : Int) ≥ most then esc_Unline.l k s most n (p + (Utf8.decode s p).2) past acc else (esc_escaped.f k (s.extract p s.size)).bind fun x => (if x.2 = 0 then (utf_One.f (s.extract p s.size)).bind fun y => (if acc.length < 3518437208883 then esc_Unline.l k s most n (p + (Utf8.decode s p).2) (wrap64 ((p : Int) + y.2)) (acc ++ [⟨y.1, 3⟩]) else none) else (if acc.length < 3518437208883 then esc_Unline.l k s most n (p + (Utf8.decode s p).2) (wrap64 ((p : Int) + x.2)) (acc ++ [⟨x.1, 3⟩]) else none)))) else some acc
def esc_Unline.f (k : Nat) (a0 : ByteArray) (a1 : Int) : Option (List S41) := esc_Unline.l k a0 a1 (a0.size + 1) 0 0 []
theorem esc_Unline.mono_l (k : Nat) (s : ByteArray) (most : Int) : ∀ n p past acc, LeO (esc_Unline.l k s most n p past acc) (esc_Unline.l (k + 1) s most n p past acc)
  | 0, _, _, _ => fun r h => by simp [esc_Unline.l] at h
  | n + 1, p, past, acc => by
    have ih0 := esc_Unline.mono_l k s most n
    unfold esc_Unline.l
    repeat' first
      | (with_reducible exact ih0 _ _ _)
      | (with_reducible exact esc_escaped.mono _ _)
      | (with_reducible exact LeO.refl _)
      | (with_reducible exact LeO.none _)
      | (with_reducible refine LeO.ite ?_ ?_)
      | (with_reducible refine LeO.bind ?_ (fun _ => ?_))
theorem esc_Unline.mono : ∀ a0 a1 k, LeO (esc_Unline.f k a0 a1) (esc_Unline.f (k + 1) a0 a1) := by
  intro a0 a1 k
  exact esc_Unline.mono_l k a0 a1 _ _ _ _
/-- What stands in memory between the rounds: the list's cell, the text's place, the list. -/
def esc_Unline.St (w W : World) (a0 : ByteArray) (pos : Nat) (v : Value) (acc : List S41) : Prop :=
  W.heap[w.heap.size]? = some (.cells #[v] 30 (0, 0)) ∧ W.heap[w.heap.size + 1]? = some (.stringIter a0 pos) ∧ Kd.R k41 41 W (w.heap.size + 2) (fun _ => True) v acc ∧ Below w.heap.size w W ∧ w.heap.size + 2 ≤ W.heap.size
theorem esc_Unline.St.below {w W W' : World} {a0 : ByteArray} {pos : Nat} {v : Value} {acc : List S41} (h : esc_Unline.St w W a0 pos v acc) (hb : Below W.heap.size W W') : esc_Unline.St w W' a0 pos v acc := by
  obtain ⟨h1, h2, h3, h4, h5⟩ := h
  exact ⟨(hb.block _ (by omega)).trans h1, (hb.block _ (by omega)).trans h2, Kd.R_below h3 hb, ⟨(hb.os.trans h4.os), hb.tape.trans h4.tape, hb.output.trans h4.output, Nat.le_trans h4.size hb.size, fun i hi => (hb.block i (by omega)).trans (h4.block i hi)⟩, Nat.le_trans h5 hb.size⟩
theorem esc_Unline.St.start (w : World) (a0 : ByteArray) : esc_Unline.St w ((w.alloc (.cells #[.slice none 0 0] 30)).alloc (.stringIter a0 0)) a0 0 (.slice none 0 0) [] := by
  refine ⟨?_, ?_, Kd.R_nil _ _ _ _ _, ((Below.refl _ w).alloc (Nat.le_refl _) _).alloc (by simp) _, by simp⟩
  · rw [Below.heap_alloc _ _ _ (by simp)]; exact heap_alloc_new w _
  · have := heap_alloc_new (w.alloc (.cells #[.slice none 0 0] 30)) (.stringIter a0 0)
    simpa using this
theorem esc_Unline.St.next {w W : World} {a0 : ByteArray} {pos : Nat} {v : Value} {acc : List S41} (h : esc_Unline.St w W a0 pos v acc) (q : Nat) : esc_Unline.St w (W.iterAt (w.heap.size + 1) a0 q) a0 q v acc := by
  obtain ⟨h1, h2, h3, h4, h5⟩ := h
  refine ⟨(Lib.iterAt_other W (w.heap.size + 1) _ a0 _ (by omega)).trans h1, Lib.iterAt_heap W (w.heap.size + 1) a0 pos q h2, Kd.R_mono (Kd.R_step (Kd.R_bound h3) (fun k hk _ => Lib.iterAt_other W (w.heap.size + 1) k a0 _ (by have := hk.2.1; omega))) (fun _ _ => trivial), Lib.below_iterAt h4 (k := w.heap.size + 1) (Nat.le_succ _) a0 q, ?_⟩
  have := lt_of_block (Lib.iterAt_heap W (w.heap.size + 1) a0 pos q h2)
  omega
set_option maxHeartbeats 8000000 in
set_option maxRecDepth 100000 in
theorem esc_Unline.put0 (w0 W : World) (base : Nat) (x : Int) (v : Value) (acc : List S41) (it : Obj) (hB : Below base w0 W) (hbase : base + 2 ≤ W.heap.size) (ho : W.heap[base]? = some (.cells #[v] 30 (0, 0))) (hi : W.heap[base + 1]? = some it) (hR : Kd.R k41 41 W (base + 2) (fun _ => True) v acc) (hl : acc.length < 3518437208883) :
    Calls Tryd.prog 22 #[.int .i64 x, .pointer (some ⟨base, 0, none⟩)] W fun e w' => ∃ v' : Value, e = .returned (.tuple #[]) ∧ w'.heap[base]? = some (.cells #[v'] 30 (0, 0)) ∧ w'.heap[base + 1]? = some it ∧ Kd.R k41 41 w' (base + 2) (fun _ => True) v' (acc ++ [⟨x, 3⟩]) ∧ Below base w0 w' ∧ base + 2 ≤ w'.heap.size := by
  have ho0 := cell_of_one ho
  have hof := free_of_one ho
  have HO := Aside0.mk ho
  have HI := Aside0.mk hi
  have HR := Aside0.mk hR
  have HL := Aside0.mk hl
  have HB := Aside0.mk hB
  have HZ := Aside0.mk hbase
  have hu := Tryd.underlying41
  clear hB ho hi hR hl hbase
  obtain ⟨y0, hy0⟩ : ∃ y_ : List S41, y_ = (acc ++ [⟨x, 3⟩]) := ⟨_, rfl⟩
  have Ny := Aside0.mk hy0
  clear hy0
  go_enter Tryd.func22, Tryd.ntmps22
  go_wp2_with ((with_reducible refine gate_builtin (b := .append) (xs := #[.tmp 3, .tmp 6]) rfl ?_); at_builtin; refine Kd.R_append k41 (w0 := W) (base + 2) rfl (.tmp 3) (.tmp 6) 30 41 (.agg #[(.int .i64 0), (.int .i64 0)]) 16 rfl Tryd.underlying30 info41 rfl (by decide) (by omega) v acc (⟨x, 3⟩ : S41) [.int .i64 x, .int .i64 3] (fun _ => True) (fun _ => False) rfl rfl ?aP (fun _ hk => hk.elim) ?aF ?aO ?aB ?aS ?aL ?_; (case aP => exact k41_mkM _ _ _ _); (case aB => exact Below.refl _ _); (case aF => exact (fun _ _ => trivial)); (case aO => exact (by (with_reducible repeat (first | apply Kd.R_alloc | apply Kd.R_drewN | apply Kd.R_drew)); exact HR.out)); (case aS => exact HZ.out); (case aL => have := HL.out; omega); intro v7 w7 ho hb hgr hat; rw [← Ny.out] at ho; obtain ⟨A7, c7, rfl⟩ := Kd.R_slice ho; have HO7 := Aside0.mk ((hb.block base (by omega)).trans HO.out); have HI7 := Aside0.mk ((hb.block (base + 1) (by omega)).trans HI.out); have hz7 := Aside0.mk (Nat.le_trans HZ.out hb.size); have HB7 := Aside0.mk (show Below base w0 w7 from HB.out.trans ⟨hb.os, hb.tape, hb.output, hb.size, fun i hi => hb.block i (by omega)⟩); have HR7 := Aside0.mk ho; clear ho hb hgr hat HO HI HR HB ho0 hof; have ho7 := cell_of_one HO7.out; have hof7 := free_of_one HO7.out)
  go_end0
  refine ⟨.slice A7 y0.length c7, rfl, ?_, ?_, ?_, ?_, ?_⟩
  · exact one_setCell HO7.out
  · exact (Below.heap_setCell _ _ _ _ (by simp)).trans HI7.out
  · rw [← Ny.out]; exact Kd.R_mono (Kd.R_far (Kd.R_bound HR7.out) (fun k hk => by have := hk.2.1; simp; omega) _) (fun _ _ => trivial)
  · exact HB7.out.setCell (by simp) _
  · have := hz7.out
    simpa using this
theorem esc_Unline.put (w W : World) (a0 : ByteArray) (pos : Nat) (x : Int) (v : Value) (acc : List S41) (h : esc_Unline.St w W a0 pos v acc) (hl : acc.length < 3518437208883) :
    Calls Tryd.prog 22 #[.int .i64 x, .pointer (some ⟨w.heap.size, 0, none⟩)] W fun e w' => ∃ v' : Value, e = .returned (.tuple #[]) ∧ esc_Unline.St w w' a0 pos v' (acc ++ [⟨x, 3⟩]) := by
  obtain ⟨h1, h2, h3, h4, h5⟩ := h
  refine (esc_Unline.put0 w W w.heap.size x v acc _ h4 h5 h1 h2 h3 hl).mono ?_
  rintro e w' ⟨v', rfl, g1, g2, g3, g4, g5⟩
  exact ⟨v', rfl, g1, g2, g3, g4, g5⟩
set_option maxHeartbeats 8000000 in
set_option maxRecDepth 100000 in
theorem esc_Unline.calls (k : Nat) (a0 : ByteArray) (a1 : Int) (r : List S41) (w : World) (h : esc_Unline.f k a0 a1 = some r) :
    Calls Tryd.prog 13 #[.string a0, .int .i64 a1] w fun e w' => ∃ v0_ : Value, e = .returned (v0_) ∧ Kd.R k41 41 w' w.heap.size (fun _ => True) v0_ r ∧ Below w.heap.size w w' := by
  unfold esc_Unline.f at h
  have H0 := Aside0.mk h
  clear h
  go_enter Tryd.func13, Tryd.ntmps13
  go_wp2
  go_loopg [7] (a0.size + 1) (fun gg v7 wr => ∃ (n pos : Nat) (past : Int) (acc : List S41) (v : Value), n ≤ gg ∧ v7 = .int .i64 past ∧ Aside0 (esc_Unline.St w wr a0 pos v acc) ∧ Aside0 (esc_Unline.l k a0 a1 n pos past acc = some r))
  case atStart => exact ⟨a0.size + 1, 0, 0, [], .slice none 0 0, Nat.le_refl _, rfl, ⟨esc_Unline.St.start w a0⟩, H0⟩
  case round =>
    clear H0
    obtain ⟨n, pos, past, acc, v, hn, rfl, HS, HA⟩ := hrel
    cases n with
    | zero => exact absurd HA.out (by simp [esc_Unline.l])
    | succ n =>
    have h := HA.out
    clear HA
    simp only [esc_Unline.l] at h
    have hit := HS.out.2.1
    have HN := Aside0.mk hn
    clear hn
    by_cases hp : pos < a0.size
    · rw [if_pos hp] at h
      have hnx : ∀ ty, (Instr.next (.pointer (some ⟨w.heap.size + 1, 0, none⟩)) true ty).run Tryd.prog wr = _ := fun ty => Lib.run_next_any_at wr (w.heap.size + 1) a0 pos ty hit hp
      have HS1 := HS.out.next (pos + (Utf8.decode a0 pos).2)
      obtain ⟨W1, hW1⟩ : ∃ W1, W1 = wr.iterAt (w.heap.size + 1) a0 (pos + (Utf8.decode a0 pos).2) := ⟨_, rfl⟩
      rw [← hW1] at hnx HS1
      clear hW1 HS hit
      have HS := Aside0.mk HS1
      clear HS1
      obtain ⟨A, c1, rfl⟩ := Kd.R_slice HS.out.2.2.1
      have ho0 := cell_of_one HS.out.1
      have hlen : acc.length ≤ 9223372036854775807 := by have := (Kd.R_reads' HS.out.2.2.1).2.2.2.1; omega
      by_cases c2 : (pos : Int) < past
      · rw [if_pos c2] at h
        have HA := Aside0.mk h
        clear h
        go_wp2_with fail
        go_roundg n
        case measure => have := HN.out; omega
        case rel => exact ⟨n, _, past, acc, _, Nat.le_refl _, rfl, HS, HA⟩
      · rw [if_neg c2] at h
        by_cases c3 : (acc.length : Int) ≥ a1
        · rw [if_pos c3] at h
          have HA := Aside0.mk h
          clear h
          go_wp2_with fail
          go_roundg n
          case measure => have := HN.out; omega
          case rel => exact ⟨n, _, past, acc, _, Nat.le_refl _, rfl, HS, HA⟩
        · rw [if_neg c3] at h
          obtain ⟨⟨x1, x2⟩, hx, h⟩ := Option.bind_eq_some_iff.mp h
          simp only at h
          have HX := Aside0.mk (fun W => esc_escaped.calls k (a0.extract pos a0.size) x1 x2 W hx)
          have hdl := decode_le a0 pos
          clear hx
          by_cases c4 : x2 = 0
          · rw [if_pos c4] at h
            subst c4
            obtain ⟨⟨y1, y2⟩, hy, h⟩ := Option.bind_eq_some_iff.mp h
            simp only at h
            by_cases c5 : acc.length < 3518437208883
            · rw [if_pos c5] at h
              have HA := Aside0.mk h
              have HY := Aside0.mk (fun W => utf_One.calls (a0.extract pos a0.size) y1 y2 W hy)
              have HL := Aside0.mk c5
              clear h hy c5
              go_wp2_with fail
              refine (HX.out _).mono ?_
              rintro e w2 ⟨rfl, ⟨nd, rfl⟩⟩
              go_wp2_with fail
              refine (HY.out _).mono ?_
              rintro e w3 ⟨rfl, hb3⟩
              have HS3 := Aside0.mk (HS.out.below (below_step (pw_below_drewN (Below.refl _ _) nd) hb3))
              clear HX HY ho0 hnx HS hb3
              go_wp2_with fail
              refine (esc_Unline.put w w3 a0 _ y1 _ acc HS3.out HL.out).mono ?_
              rintro e w4 ⟨v4, rfl, HS4⟩
              have HS5 := Aside0.mk HS4
              clear HS4 HS3
              go_wp2_with fail
              go_roundg n
              case measure => have := HN.out; omega
              case rel => exact ⟨n, _, _, _, v4, Nat.le_refl _, rfl, HS5, HA⟩
            · rw [if_neg c5] at h; cases h
          · rw [if_neg c4] at h
            have c4b : (x2 == 0) = false := beq_eq_false_iff_ne.mpr c4
            by_cases c5 : acc.length < 3518437208883
            · rw [if_pos c5] at h
              have HA := Aside0.mk h
              have HL := Aside0.mk c5
              clear h c5 c4
              go_wp2_with fail
              refine (HX.out _).mono ?_
              rintro e w2 ⟨rfl, ⟨nd, rfl⟩⟩
              have HS3 := Aside0.mk (HS.out.below (pw_below_drewN (Below.refl _ _) nd))
              clear HX ho0 hnx HS
              go_wp2_with fail
              refine (esc_Unline.put w _ a0 _ x1 _ acc HS3.out HL.out).mono ?_
              rintro e w4 ⟨v4, rfl, HS4⟩
              have HS5 := Aside0.mk HS4
              clear HS4 HS3
              go_wp2_with fail
              go_roundg n
              case measure => have := HN.out; omega
              case rel => exact ⟨n, _, _, _, v4, Nat.le_refl _, rfl, HS5, HA⟩
            · rw [if_neg c5] at h; cases h
    · rw [if_neg hp] at h
      obtain rfl := Option.some.inj h
      clear h
      have hnx : ∀ ty, (Instr.next (.pointer (some ⟨w.heap.size + 1, 0, none⟩)) true ty).run Tryd.prog wr = _ := fun ty => Lib.run_next_end_at wr (w.heap.size + 1) a0 pos ty hit hp
      obtain ⟨A, c1, rfl⟩ := Kd.R_slice HS.out.2.2.1
      have ho0 := cell_of_one HS.out.1
      go_wp2_with fail
      go_ret
      exact ⟨_, rfl, Kd.R_lower HS.out.2.2.1 (by omega), HS.out.2.2.2.1⟩

/-! ### strings_Split: function 25 -/
def strings_Split.f (a0 a1 : ByteArray) : Option (List ByteArray) := if a1.size = 1 ∧ a0.size < 4294967281 then some (Lib.splitB a1 0 (Lib.countB a0 a1) a0) else none
set_option maxHeartbeats 1000000 in
theorem strings_Split.one (s : ByteArray) (c : UInt8) (w : World) (hs : s.size < 4294967281) :
    Calls Tryd.prog 25 #[.string s, .string ⟨#[c]⟩] w fun e w' => e = .returned (.slice (some ⟨w.heap.size, 0, none⟩) (Lib.countB s ⟨#[c]⟩ + 1) (Lib.countB s ⟨#[c]⟩ + 1)) ∧ w' = w.alloc (.cells ((Lib.splitB ⟨#[c]⟩ 0 (Lib.countB s ⟨#[c]⟩) s).map Value.string).toArray 9) := by
  have L : Go.Proofs.Lays.n146 Tryd.prog Tryd.laysM146_ren := { Tryd.laysM146 with }
  have h1 : 1 ≤ (⟨#[c]⟩ : ByteArray).size := Nat.le_refl 1
  have hle := Lib.countB_le ⟨#[c]⟩ h1 s.size s (Nat.le_refl _)
  have hlen := Lib.splitB_all ⟨#[c]⟩ h1 0 _ s rfl
  have c0 := Any.strings_genSplit_core { L with } Tryd.laysM146.i9 s ⟨#[c]⟩ 0 (-1) (Lib.countB s ⟨#[c]⟩ + 1) w hs h1 (Nat.zero_le _)
    (fun x cc _ => (Any.strings_Index_one { L with } x c _).mono (fun e w' h => ⟨by rw [h.1]; show _ = Ending.returned (Value.int .i64 (Lib.index x.data.toList [c])); rw [Lib.index_one], h.2⟩))
    ((Any.strings_Count_one { L with } s c w).mono (fun e w' h => ⟨by rw [h.1]; show _ = Ending.returned (Value.int .i64 ((Lib.count s.data.toList [c] : Nat) : Int)); rw [Lib.count_one]; rfl, h.2⟩))
    (by decide) (by decide) (by rw [if_pos (by decide)]; omega)
  rw [Nat.add_sub_cancel, hlen] at c0
  have e2 : Lib.cellsOf (Lib.splitB ⟨#[c]⟩ 0 (Lib.countB s ⟨#[c]⟩) s) (Lib.countB s ⟨#[c]⟩ + 1) = ((Lib.splitB ⟨#[c]⟩ 0 (Lib.countB s ⟨#[c]⟩) s).map Value.string).toArray := by rw [← hlen]; exact Lib.cellsOf_full _
  rw [e2] at c0
  have C0 := Aside0.mk c0
  clear c0 e2 hlen hle h1 L
  go_enter Tryd.func25, Tryd.ntmps25
  go_wp2_with fail
  refine C0.out.mono ?_
  rintro e w' ⟨rfl, rfl⟩
  go_wp2_with fail
  go_ret
  exact ⟨rfl, rfl⟩
theorem strings_Split.calls (a0 a1 : ByteArray) (r : List ByteArray) (w : World) (h : strings_Split.f a0 a1 = some r) :
    Calls Tryd.prog 25 #[.string a0, .string a1] w fun e w' => ∃ v0_ : Value, e = .returned (v0_) ∧ Kd.R Kd.string 9 w' w.heap.size (fun _ => True) v0_ r ∧ Below w.heap.size w w' := by
  unfold strings_Split.f at h
  split at h
  case isFalse => cases h
  rename_i hc
  obtain rfl := Option.some.inj h
  obtain ⟨h1, hs⟩ := hc
  obtain ⟨c, rfl⟩ := Lib.one_byte a1 h1
  have hlen := Lib.splitB_all ⟨#[c]⟩ (Nat.le_refl 1) 0 _ a0 rfl
  have hle := Lib.countB_le ⟨#[c]⟩ (Nat.le_refl 1) a0.size a0 (Nat.le_refl _)
  refine (strings_Split.one a0 c w hs).mono ?_
  rintro e w' ⟨rfl, rfl⟩
  refine ⟨_, rfl, Kd.R_of_own ?_ (fun _ _ => trivial), (Below.refl _ w).alloc (Nat.le_refl _) _⟩
  have ho := World.ownsRow_lit (base := w.heap.size) (e := 9) (size := 1) w ((Lib.splitB ⟨#[c]⟩ 0 (Lib.countB a0 ⟨#[c]⟩) a0).map Value.string).toArray (Lib.countB a0 ⟨#[c]⟩ + 1) (Nat.le_refl _) (by unfold maxLen; omega) (by simp [hlen])
  rw [hlen]
  exact ho

end Go.Proofs.YtddkmhkglmcihaaDoor.PAll
