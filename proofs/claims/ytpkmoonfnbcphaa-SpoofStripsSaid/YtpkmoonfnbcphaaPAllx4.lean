-- Printed for this claim by the session's own program (wip/tool/hprint.py) over the kit's print; some functions' texts are the session's own.
import Derived.Test.YtpkmoonfnbcphaaPAllx0
import Derived.Test.YtpkmoonfnbcphaaPAllx2
import Derived.Test.YtpkmoonfnbcphaaPAllx3
namespace Go.Proofs.Ytpkmoonfnbcphaa.PAll
open Go.RowKit Go.Proofs.YtpkmoonfnbcphaaW.PrintWords Go.Proofs.YtpkmoonfnbcphaaW.PrintLast Go.Proofs.YtpkmoonfnbcphaaW.PrintMore
attribute [local go_sem] max2_int min2_int max_two min_two max_three min_three max_four min_four   -- for this text's walks alone
set_option linter.unusedVariables false
set_option linter.unusedSimpArgs false

/-! ### spoof_script: function 36 -/
mutual
def spoof_script.j0 : Nat → Int → Bool → Option (Int)
 | 0, _, _ => none
 | k + 1, x0, x3 => if x3 = true then (some 1) else (if x0 ≥ 880 then (spoof_script.j1 k x0 (decide (x0 ≤ 1023))) else (spoof_script.j1 k x0 false))
def spoof_script.j1 : Nat → Int → Bool → Option (Int)
 | 0, _, _ => none
 | k + 1, x0, x26 => if x26 = true then (some 2) else (if x0 ≥ 1024 then (spoof_script.j2 k x0 (decide (x0 ≤ 1327))) else (spoof_script.j2 k x0 false))
def spoof_script.j2 : Nat → Int → Bool → Option (Int)
 | 0, _, _ => none
 | k + 1, x0, x33 => if x33 = true then (some 3) else ((class_Of.f k x0).bind fun t196 => (if t196 = 2 then (some 4) else (some 0)))
end
def spoof_script.f (k : Nat) (a0 : Int) : Option (Int) := if a0 ≥ 97 then (if a0 ≤ 122 then (spoof_script.j0 k a0 true) else (if a0 ≥ 65 then (if a0 ≤ 90 then (spoof_script.j0 k a0 true) else (if a0 ≥ 192 then (spoof_script.j0 k a0 (decide (a0 ≤ 591))) else (spoof_script.j0 k a0 false))) else (if a0 ≥ 192 then (spoof_script.j0 k a0 (decide (a0 ≤ 591))) else (spoof_script.j0 k a0 false)))) else (if a0 ≥ 65 then (if a0 ≤ 90 then (spoof_script.j0 k a0 true) else (if a0 ≥ 192 then (spoof_script.j0 k a0 (decide (a0 ≤ 591))) else (spoof_script.j0 k a0 false))) else (if a0 ≥ 192 then (spoof_script.j0 k a0 (decide (a0 ≤ 591))) else (spoof_script.j0 k a0 false)))
theorem spoof_script.mono_l : ∀ k, (∀ y0 y1, LeO (spoof_script.j0 k y0 y1) (spoof_script.j0 (k + 1) y0 y1)) ∧ (∀ y0 y1, LeO (spoof_script.j1 k y0 y1) (spoof_script.j1 (k + 1) y0 y1)) ∧ (∀ y0 y1, LeO (spoof_script.j2 k y0 y1) (spoof_script.j2 (k + 1) y0 y1))
 | 0 => ⟨fun _ _ r h => by simp [spoof_script.j0] at h, fun _ _ r h => by simp [spoof_script.j1] at h, fun _ _ r h => by simp [spoof_script.j2] at h⟩
 | k + 1 => by
  obtain ⟨ih0, ih1, ih2⟩ := spoof_script.mono_l k
  refine ⟨?_, ?_, ?_⟩
  ·intro y0 y1
   unfold spoof_script.j0
   repeat' first
   | (with_reducible exact ih0 _ _)
   | (with_reducible exact ih1 _ _)
   | (with_reducible exact ih2 _ _)
   | (with_reducible exact class_Of.mono _ _)
   | (with_reducible exact LeO.refl _)
   | (with_reducible exact LeO.none _)
   | (with_reducible refine LeO.ite ?_ ?_)
   | (with_reducible refine LeO.bind ?_ (fun _ => ?_))
   | exact ih0 _ _
   | exact ih1 _ _
   | exact ih2 _ _
   | exact class_Of.mono _ _
   | exact LeO.none _
   | refine LeO.ite ?_ ?_
   | refine LeO.bind ?_ (fun _ => ?_)
  ·intro y0 y1
   unfold spoof_script.j1
   repeat' first
   | (with_reducible exact ih0 _ _)
   | (with_reducible exact ih1 _ _)
   | (with_reducible exact ih2 _ _)
   | (with_reducible exact class_Of.mono _ _)
   | (with_reducible exact LeO.refl _)
   | (with_reducible exact LeO.none _)
   | (with_reducible refine LeO.ite ?_ ?_)
   | (with_reducible refine LeO.bind ?_ (fun _ => ?_))
   | exact ih0 _ _
   | exact ih1 _ _
   | exact ih2 _ _
   | exact class_Of.mono _ _
   | exact LeO.none _
   | refine LeO.ite ?_ ?_
   | refine LeO.bind ?_ (fun _ => ?_)
  ·intro y0 y1
   unfold spoof_script.j2
   repeat' first
   | (with_reducible exact ih0 _ _)
   | (with_reducible exact ih1 _ _)
   | (with_reducible exact ih2 _ _)
   | (with_reducible exact class_Of.mono _ _)
   | (with_reducible exact LeO.refl _)
   | (with_reducible exact LeO.none _)
   | (with_reducible refine LeO.ite ?_ ?_)
   | (with_reducible refine LeO.bind ?_ (fun _ => ?_))
   | exact ih0 _ _
   | exact ih1 _ _
   | exact ih2 _ _
   | exact class_Of.mono _ _
   | exact LeO.none _
   | refine LeO.ite ?_ ?_
   | refine LeO.bind ?_ (fun _ => ?_)
theorem spoof_script.mono : ∀ a0 k, LeO (spoof_script.f k a0) (spoof_script.f (k + 1) a0) := by
 intro a0 k
 obtain ⟨ih0, ih1, ih2⟩ := spoof_script.mono_l k
 unfold spoof_script.f
 repeat' first
   | (with_reducible exact ih0 _ _)
   | (with_reducible exact ih1 _ _)
   | (with_reducible exact ih2 _ _)
   | (with_reducible exact class_Of.mono _ _)
   | (with_reducible exact LeO.refl _)
   | (with_reducible exact LeO.none _)
   | (with_reducible refine LeO.ite ?_ ?_)
   | (with_reducible refine LeO.bind ?_ (fun _ => ?_))
   | exact ih0 _ _
   | exact ih1 _ _
   | exact ih2 _ _
   | exact class_Of.mono _ _
   | exact LeO.none _
   | refine LeO.ite ?_ ?_
   | refine LeO.bind ?_ (fun _ => ?_)
set_option maxHeartbeats 8000000 in
set_option maxRecDepth 100000 in
theorem spoof_script.calls (k : Nat) (a0 : Int) (r : Int) (w : World) (h : spoof_script.f k a0 = some r) :
  Calls Try.prog 36 #[.int .i64 a0] w fun e w' => e = .returned (.int .i64 r) ∧ Below w.heap.size w w' := by
 have HB := Aside0.mk (Below.refl w.heap.size w)
 have H : (if a0 ≥ 97 then (if a0 ≤ 122 then (spoof_script.j0 k a0 true) else (if a0 ≥ 65 then (if a0 ≤ 90 then (spoof_script.j0 k a0 true) else (if a0 ≥ 192 then (spoof_script.j0 k a0 (decide (a0 ≤ 591))) else (spoof_script.j0 k a0 false))) else (if a0 ≥ 192 then (spoof_script.j0 k a0 (decide (a0 ≤ 591))) else (spoof_script.j0 k a0 false)))) else (if a0 ≥ 65 then (if a0 ≤ 90 then (spoof_script.j0 k a0 true) else (if a0 ≥ 192 then (spoof_script.j0 k a0 (decide (a0 ≤ 591))) else (spoof_script.j0 k a0 false))) else (if a0 ≥ 192 then (spoof_script.j0 k a0 (decide (a0 ≤ 591))) else (spoof_script.j0 k a0 false)))) = some r := h
 clear h
 have HC2 := Aside0.mk H
 clear H
 go_enter Try.func36, Try.ntmps36
 go_upto_region 1 with (fail)
 go_cut [3] (fun v3 wc => ∃ (kq : Nat) (x3_1 : Bool), v3 = .bool x3_1 ∧ Aside0 (spoof_script.j0 kq a0 x3_1 = some r) ∧ Aside0 (kq ≤ k) ∧ Aside0 (Below w.heap.size w wc))
 case first =>
  have H := HC2.out
  clear HC2
  by_cases c3 : a0 ≥ 97
  ·rw [if_pos c3] at H
   have c3b0 : decide (97 ≤ a0) = true := decide_eq_true c3
   clear c3
   (first | rw [c3b0] | (simp only [i64_w, i32_w]; rw [c3b0]) | skip)
   by_cases c4 : a0 ≤ 122
   ·rw [if_pos c4] at H
    have c4b0 : decide (a0 ≤ 122) = true := decide_eq_true c4
    clear c4
    have H' := Aside0.mk H
    clear H
    go_wp2
    go_meet
    case rel => exact ⟨_, (true), (by first | rfl | (simp; done) | (simp [*]; done)), H', ⟨by first | omega | exact Nat.le_refl _⟩, ⟨by repeat (first | (with_reducible first | exact HB.out | apply below_alloc | apply pw_below_drewN | apply below_drew1) | exact HB.out)⟩⟩
   ·rw [if_neg c4] at H
    have c4b0 : decide (a0 ≤ 122) = false := decide_eq_false c4
    clear c4
    by_cases c5 : a0 ≥ 65
    ·rw [if_pos c5] at H
     have c5b0 : decide (65 ≤ a0) = true := decide_eq_true c5
     clear c5
     by_cases c6 : a0 ≤ 90
     ·rw [if_pos c6] at H
      have c6b0 : decide (a0 ≤ 90) = true := decide_eq_true c6
      clear c6
      have H' := Aside0.mk H
      clear H
      go_wp2
      go_meet
      case rel => exact ⟨_, (true), (by first | rfl | (simp; done) | (simp [*]; done)), H', ⟨by first | omega | exact Nat.le_refl _⟩, ⟨by repeat (first | (with_reducible first | exact HB.out | apply below_alloc | apply pw_below_drewN | apply below_drew1) | exact HB.out)⟩⟩
     ·rw [if_neg c6] at H
      have c6b0 : decide (a0 ≤ 90) = false := decide_eq_false c6
      clear c6
      by_cases c7 : a0 ≥ 192
      ·rw [if_pos c7] at H
       have c7b0 : decide (192 ≤ a0) = true := decide_eq_true c7
       clear c7
       have H' := Aside0.mk H
       clear H
       go_wp2
       go_meet
       case rel => exact ⟨_, (decide (a0 ≤ 591)), (by first | rfl | (simp; done) | (simp [*]; done)), H', ⟨by first | omega | exact Nat.le_refl _⟩, ⟨by repeat (first | (with_reducible first | exact HB.out | apply below_alloc | apply pw_below_drewN | apply below_drew1) | exact HB.out)⟩⟩
      ·rw [if_neg c7] at H
       have c7b0 : decide (192 ≤ a0) = false := decide_eq_false c7
       clear c7
       have H' := Aside0.mk H
       clear H
       go_wp2
       go_meet
       case rel => exact ⟨_, (false), (by first | rfl | (simp; done) | (simp [*]; done)), H', ⟨by first | omega | exact Nat.le_refl _⟩, ⟨by repeat (first | (with_reducible first | exact HB.out | apply below_alloc | apply pw_below_drewN | apply below_drew1) | exact HB.out)⟩⟩
    ·rw [if_neg c5] at H
     have c5b0 : decide (65 ≤ a0) = false := decide_eq_false c5
     clear c5
     by_cases c8 : a0 ≥ 192
     ·rw [if_pos c8] at H
      have c8b0 : decide (192 ≤ a0) = true := decide_eq_true c8
      clear c8
      have H' := Aside0.mk H
      clear H
      go_wp2
      go_meet
      case rel => exact ⟨_, (decide (a0 ≤ 591)), (by first | rfl | (simp; done) | (simp [*]; done)), H', ⟨by first | omega | exact Nat.le_refl _⟩, ⟨by repeat (first | (with_reducible first | exact HB.out | apply below_alloc | apply pw_below_drewN | apply below_drew1) | exact HB.out)⟩⟩
     ·rw [if_neg c8] at H
      have c8b0 : decide (192 ≤ a0) = false := decide_eq_false c8
      clear c8
      have H' := Aside0.mk H
      clear H
      go_wp2
      go_meet
      case rel => exact ⟨_, (false), (by first | rfl | (simp; done) | (simp [*]; done)), H', ⟨by first | omega | exact Nat.le_refl _⟩, ⟨by repeat (first | (with_reducible first | exact HB.out | apply below_alloc | apply pw_below_drewN | apply below_drew1) | exact HB.out)⟩⟩
  ·rw [if_neg c3] at H
   have c3b0 : decide (97 ≤ a0) = false := decide_eq_false c3
   clear c3
   (first | rw [c3b0] | (simp only [i64_w, i32_w]; rw [c3b0]) | skip)
   by_cases c9 : a0 ≥ 65
   ·rw [if_pos c9] at H
    have c9b0 : decide (65 ≤ a0) = true := decide_eq_true c9
    clear c9
    by_cases c10 : a0 ≤ 90
    ·rw [if_pos c10] at H
     have c10b0 : decide (a0 ≤ 90) = true := decide_eq_true c10
     clear c10
     have H' := Aside0.mk H
     clear H
     go_wp2
     go_meet
     case rel => exact ⟨_, (true), (by first | rfl | (simp; done) | (simp [*]; done)), H', ⟨by first | omega | exact Nat.le_refl _⟩, ⟨by repeat (first | (with_reducible first | exact HB.out | apply below_alloc | apply pw_below_drewN | apply below_drew1) | exact HB.out)⟩⟩
    ·rw [if_neg c10] at H
     have c10b0 : decide (a0 ≤ 90) = false := decide_eq_false c10
     clear c10
     by_cases c11 : a0 ≥ 192
     ·rw [if_pos c11] at H
      have c11b0 : decide (192 ≤ a0) = true := decide_eq_true c11
      clear c11
      have H' := Aside0.mk H
      clear H
      go_wp2
      go_meet
      case rel => exact ⟨_, (decide (a0 ≤ 591)), (by first | rfl | (simp; done) | (simp [*]; done)), H', ⟨by first | omega | exact Nat.le_refl _⟩, ⟨by repeat (first | (with_reducible first | exact HB.out | apply below_alloc | apply pw_below_drewN | apply below_drew1) | exact HB.out)⟩⟩
     ·rw [if_neg c11] at H
      have c11b0 : decide (192 ≤ a0) = false := decide_eq_false c11
      clear c11
      have H' := Aside0.mk H
      clear H
      go_wp2
      go_meet
      case rel => exact ⟨_, (false), (by first | rfl | (simp; done) | (simp [*]; done)), H', ⟨by first | omega | exact Nat.le_refl _⟩, ⟨by repeat (first | (with_reducible first | exact HB.out | apply below_alloc | apply pw_below_drewN | apply below_drew1) | exact HB.out)⟩⟩
   ·rw [if_neg c9] at H
    have c9b0 : decide (65 ≤ a0) = false := decide_eq_false c9
    clear c9
    by_cases c12 : a0 ≥ 192
    ·rw [if_pos c12] at H
     have c12b0 : decide (192 ≤ a0) = true := decide_eq_true c12
     clear c12
     have H' := Aside0.mk H
     clear H
     go_wp2
     go_meet
     case rel => exact ⟨_, (decide (a0 ≤ 591)), (by first | rfl | (simp; done) | (simp [*]; done)), H', ⟨by first | omega | exact Nat.le_refl _⟩, ⟨by repeat (first | (with_reducible first | exact HB.out | apply below_alloc | apply pw_below_drewN | apply below_drew1) | exact HB.out)⟩⟩
    ·rw [if_neg c12] at H
     have c12b0 : decide (192 ≤ a0) = false := decide_eq_false c12
     clear c12
     have H' := Aside0.mk H
     clear H
     go_wp2
     go_meet
     case rel => exact ⟨_, (false), (by first | rfl | (simp; done) | (simp [*]; done)), H', ⟨by first | omega | exact Nat.le_refl _⟩, ⟨by repeat (first | (with_reducible first | exact HB.out | apply below_alloc | apply pw_below_drewN | apply below_drew1) | exact HB.out)⟩⟩
 case rest =>
  clear HC2
  try clear c1
  try clear p2
  try clear c3
  try clear c3b0
  try clear c4
  try clear c4b0
  try clear c5
  try clear c5b0
  try clear c6
  try clear c6b0
  try clear c7
  try clear c7b0
  try clear c8
  try clear c8b0
  try clear c9
  try clear c9b0
  try clear c10
  try clear c10b0
  try clear c11
  try clear c11b0
  try clear c12
  try clear c12b0
  obtain ⟨kq, x3_1, rfl, HA, HJ1, HB⟩ := hcut
  cases kq with
  | zero => exact absurd HA.out (by simp [spoof_script.j0])
  | succ kj1 =>
   have H := HA.out
   clear HA
   simp only [spoof_script.j0] at H
   by_cases c13 : x3_1 = true
   ·subst c13
    have H1 : (some 1) = some r := by rw [if_pos rfl] at H; exact H
    clear H
    have H := H1
    clear H1
    obtain rfl := Option.some.inj H
    go_wp2
    go_ret
    exact ⟨zr, zb⟩
   ·replace c13 := Bool.eq_false_iff.mpr c13
    subst c13
    have H1 : (if a0 ≥ 880 then (spoof_script.j1 kj1 a0 (decide (a0 ≤ 1023))) else (spoof_script.j1 kj1 a0 false)) = some r := by rw [if_neg (show ¬ (false = true) by decide)] at H; exact H
    clear H
    have H := H1
    clear H1
    have HC14 := Aside0.mk H
    clear H
    go_upto_region 3 with (fail)
    go_cut [26] (fun v26 wc => ∃ (kq : Nat) (x26_13 : Bool), v26 = .bool x26_13 ∧ Aside0 (spoof_script.j1 kq a0 x26_13 = some r) ∧ Aside0 (kq ≤ kj1) ∧ Aside0 (Below w.heap.size w wc))
    case first =>
     have H := HC14.out
     clear HC14
     by_cases c15 : a0 ≥ 880
     ·rw [if_pos c15] at H
      have c15b0 : decide (880 ≤ a0) = true := decide_eq_true c15
      clear c15
      (first | rw [c15b0] | (simp only [i64_w, i32_w]; rw [c15b0]) | skip)
      have H' := Aside0.mk H
      clear H
      go_wp2
      go_meet
      case rel => exact ⟨_, (decide (a0 ≤ 1023)), (by first | rfl | (simp; done) | (simp [*]; done)), H', ⟨by have := HJ1.out; first | omega | exact Nat.le_refl _⟩, ⟨by repeat (first | (with_reducible first | exact HB.out | apply below_alloc | apply pw_below_drewN | apply below_drew1) | exact HB.out)⟩⟩
     ·rw [if_neg c15] at H
      have c15b0 : decide (880 ≤ a0) = false := decide_eq_false c15
      clear c15
      (first | rw [c15b0] | (simp only [i64_w, i32_w]; rw [c15b0]) | skip)
      have H' := Aside0.mk H
      clear H
      go_wp2
      go_meet
      case rel => exact ⟨_, (false), (by first | rfl | (simp; done) | (simp [*]; done)), H', ⟨by have := HJ1.out; first | omega | exact Nat.le_refl _⟩, ⟨by repeat (first | (with_reducible first | exact HB.out | apply below_alloc | apply pw_below_drewN | apply below_drew1) | exact HB.out)⟩⟩
    case rest =>
     clear HC14
     try clear c1
     try clear p2
     try clear c3
     try clear c3b0
     try clear c4
     try clear c4b0
     try clear c5
     try clear c5b0
     try clear c6
     try clear c6b0
     try clear c7
     try clear c7b0
     try clear c8
     try clear c8b0
     try clear c9
     try clear c9b0
     try clear c10
     try clear c10b0
     try clear c11
     try clear c11b0
     try clear c12
     try clear c12b0
     try clear c13
     try clear c15
     try clear c15b0
     try clear p2
     obtain ⟨kq, x26_13, rfl, HA, HJ13, HB⟩ := hcut
     cases kq with
     | zero => exact absurd HA.out (by simp [spoof_script.j1])
     | succ kj13 =>
      have H := HA.out
      clear HA
      simp only [spoof_script.j1] at H
      by_cases c16 : x26_13 = true
      ·subst c16
       have H1 : (some 2) = some r := by rw [if_pos rfl] at H; exact H
       clear H
       have H := H1
       clear H1
       obtain rfl := Option.some.inj H
       go_wp2
       go_ret
       exact ⟨zr, zb⟩
      ·replace c16 := Bool.eq_false_iff.mpr c16
       subst c16
       have H1 : (if a0 ≥ 1024 then (spoof_script.j2 kj13 a0 (decide (a0 ≤ 1327))) else (spoof_script.j2 kj13 a0 false)) = some r := by rw [if_neg (show ¬ (false = true) by decide)] at H; exact H
       clear H
       have H := H1
       clear H1
       have HC17 := Aside0.mk H
       clear H
       go_upto_region 5 with (fail)
       go_cut [33] (fun v33 wc => ∃ (kq : Nat) (x33_16 : Bool), v33 = .bool x33_16 ∧ Aside0 (spoof_script.j2 kq a0 x33_16 = some r) ∧ Aside0 (kq ≤ kj13) ∧ Aside0 (Below w.heap.size w wc))
       case first =>
        have H := HC17.out
        clear HC17
        by_cases c18 : a0 ≥ 1024
        ·rw [if_pos c18] at H
         have c18b0 : decide (1024 ≤ a0) = true := decide_eq_true c18
         clear c18
         (first | rw [c18b0] | (simp only [i64_w, i32_w]; rw [c18b0]) | skip)
         have H' := Aside0.mk H
         clear H
         go_wp2
         go_meet
         case rel => exact ⟨_, (decide (a0 ≤ 1327)), (by first | rfl | (simp; done) | (simp [*]; done)), H', ⟨by have := HJ1.out; have := HJ13.out; first | omega | exact Nat.le_refl _⟩, ⟨by repeat (first | (with_reducible first | exact HB.out | apply below_alloc | apply pw_below_drewN | apply below_drew1) | exact HB.out)⟩⟩
        ·rw [if_neg c18] at H
         have c18b0 : decide (1024 ≤ a0) = false := decide_eq_false c18
         clear c18
         (first | rw [c18b0] | (simp only [i64_w, i32_w]; rw [c18b0]) | skip)
         have H' := Aside0.mk H
         clear H
         go_wp2
         go_meet
         case rel => exact ⟨_, (false), (by first | rfl | (simp; done) | (simp [*]; done)), H', ⟨by have := HJ1.out; have := HJ13.out; first | omega | exact Nat.le_refl _⟩, ⟨by repeat (first | (with_reducible first | exact HB.out | apply below_alloc | apply pw_below_drewN | apply below_drew1) | exact HB.out)⟩⟩
       case rest =>
        clear HC17
        try clear c1
        try clear p2
        try clear c3
        try clear c3b0
        try clear c4
        try clear c4b0
        try clear c5
        try clear c5b0
        try clear c6
        try clear c6b0
        try clear c7
        try clear c7b0
        try clear c8
        try clear c8b0
        try clear c9
        try clear c9b0
        try clear c10
        try clear c10b0
        try clear c11
        try clear c11b0
        try clear c12
        try clear c12b0
        try clear c13
        try clear c15
        try clear c15b0
        try clear c16
        try clear c18
        try clear c18b0
        try clear p2
        obtain ⟨kq, x33_16, rfl, HA, HJ16, HB⟩ := hcut
        cases kq with
        | zero => exact absurd HA.out (by simp [spoof_script.j2])
        | succ kj16 =>
         have H := HA.out
         clear HA
         simp only [spoof_script.j2] at H
         by_cases c19 : x33_16 = true
         ·subst c19
          have H1 : (some 3) = some r := by rw [if_pos rfl] at H; exact H
          clear H
          have H := H1
          clear H1
          obtain rfl := Option.some.inj H
          go_wp2
          go_ret
          exact ⟨zr, zb⟩
         ·replace c19 := Bool.eq_false_iff.mpr c19
          subst c19
          have H1 : ((class_Of.f kj16 a0).bind fun t196 => (if t196 = 2 then (some 4) else (some 0))) = some r := by rw [if_neg (show ¬ (false = true) by decide)] at H; exact H
          clear H
          have H := H1
          clear H1
          replace H := Option.bind_eq_some_iff.mp H
          obtain ⟨t196, A200, H⟩ := H
          replace H : (if t196 = 2 then (some 4) else (some 0)) = some r := H
          have A20 := Aside0.mk A200
          clear A200
          by_cases c21 : t196 = 2
          ·rw [if_pos c21] at H
           have c21b0 : (t196 == 2) = true := beq_iff_eq.mpr c21
           have c21b1 : (t196 != 2) = false := bne_eq_false_iff_eq.mpr c21
           clear c21
           obtain rfl := Option.some.inj H
           go_wp2_with (first | ((with_reducible refine gate_callee (f := 44) rfl ?_); refine goesL_ (some 42) rfl rfl Try.func44 (by kernel_rfl) rfl #[.int .i64 a0] rfl zl ?_; (with_reducible refine (class_Of.calls kj16 a0 t196 _ A20.out).mono ?_); rintro e w22 ⟨rfl, hb⟩; refine ⟨_, rfl, ?_⟩; have n0_ := Aside0.mk (below_step zb hb); clear HB; have HB := n0_; clear n0_; (try clear hb); (try clear hb2); (try clear hk); (try clear hi)))
           go_ret
           exact ⟨zr, zb⟩
          ·rw [if_neg c21] at H
           have c21b0 : (t196 == 2) = false := beq_eq_false_iff_ne.mpr c21
           have c21b1 : (t196 != 2) = true := bne_iff_ne.mpr c21
           obtain rfl := Option.some.inj H
           go_wp2_with (first | ((with_reducible refine gate_callee (f := 44) rfl ?_); refine goesL_ (some 42) rfl rfl Try.func44 (by kernel_rfl) rfl #[.int .i64 a0] rfl zl ?_; (with_reducible refine (class_Of.calls kj16 a0 t196 _ A20.out).mono ?_); rintro e w23 ⟨rfl, hb⟩; refine ⟨_, rfl, ?_⟩; have n0_ := Aside0.mk (below_step zb hb); clear HB; have HB := n0_; clear n0_; (try clear hb); (try clear hb2); (try clear hk); (try clear hi)))
           go_ret
           exact ⟨zr, zb⟩

/-! ### slices_Sort_int_int: function 37 -/
-- IMPORT Derived.Sort.OwnSortedInts
def slices_Sort_int_int.f (l0 : List Int) : Option (List Int) := if l0.length < 4611686018427387904 then some (l0.mergeSort fun x y => decide (x ≤ y)) else none
theorem slices_Sort_int_int.calls (P0_ : Nat → Prop) (u9000_ : Value) (l0 : List Int) (r : List Int) (w0 w : World) (hB : Below w0.heap.size w0 w) (ho0 : Kd.R (Kd.int .i64) 3 w w0.heap.size P0_ u9000_ l0) (h : slices_Sort_int_int.f l0 = some r) :
  Calls Try.prog 37 #[u9000_] w fun e w' => e = .returned (.tuple #[]) ∧ Kd.R (Kd.int .i64) 3 w' w0.heap.size (fun k_ => (P0_ k_ ∨ w.heap.size ≤ k_)) u9000_ r ∧ Below w0.heap.size w0 w' ∧ Kept w w' (fun k_ => P0_ k_) := by
 unfold slices_Sort_int_int.f at h
 split at h
 case isFalse => cases h
 rename_i hs
 obtain rfl := Option.some.inj h
 have hown := Kd.own_of_R ho0
 have hok := ho0.1
 rcases hown.2 with ⟨rfl, hn⟩ | ⟨g, cap, cur, rfl, hg, hb, hle, hcap, hcs, htk⟩
 ·obtain rfl : l0 = [] := List.eq_nil_of_length_eq_zero hn
  refine (Try.slices_Sort_int_none none 0 w).mono ?_
  rintro e w' ⟨rfl, rfl⟩
  exact ⟨rfl, (by rw [List.mergeSort_nil]; exact Kd.R_nil _ _ _ _ _), hB, Kept.refl _ _⟩
 ·have hlt : g < w.heap.size := lt_of_block hb
  have hH := holds_of_blockI (ss := l0) hb (by have := htk; rw [Nat.mul_one] at this; exact this)
  refine (Try.slices_Sort_int g 0 cap l0 w hH hlt hs).mono ?_
  rintro e w' ⟨rfl, n, os, rfl⟩
  have hl : (l0.mergeSort fun x y => decide (x ≤ y)).length = l0.length := List.length_mergeSort _
  have hgr := grownBy_sortedI (w := w) (g := g) (n := n) (os := os) (l0.mergeSort fun x y => decide (x ≤ y)).toArray
  have ho := ownsRow_sortedI (n := n) (os := os) (base := w0.heap.size) (ss := l0) (ts := l0.mergeSort fun x y => decide (x ≤ y)) hl hg hb hle hcap hcs
  refine ⟨rfl, Kd.R_of_own (by rw [hl]; exact ho) (fun k hk => .inl (hok k hk)), hB.grown hgr hB.size (fun k hk => by obtain rfl := Option.some.inj hk; exact hg), hgr.size, fun i hi hn => hgr.block i hi (fun e => hn (hok i (by obtain rfl := Option.some.inj e; rfl)))⟩

/-! ### slices_Compact_int_int: function 38 -/
-- IMPORT Derived.Sort.OwnSortedInts
-- IMPORT Derived.Lib.RowBridge
def slices_Compact_int_int.f (l0 : List Int) : Option (List Int) := if l0.length ≤ 9223372036854775807 then some (Lib.compact l0) else none
theorem slices_Compact_int_int.calls (P0_ : Nat → Prop) (u9000_ : Value) (l0 : List Int) (r : List Int) (w0 w : World) (hB : Below w0.heap.size w0 w) (ho0 : Kd.R (Kd.int .i64) 3 w w0.heap.size P0_ u9000_ l0) (h : slices_Compact_int_int.f l0 = some r) :
  Calls Try.prog 38 #[u9000_] w fun e w' => ∃ v0_ : Value, e = .returned (v0_) ∧ Kd.R (Kd.int .i64) 3 w' w0.heap.size (fun k_ => (P0_ k_ ∨ w.heap.size ≤ k_)) v0_ r ∧ Below w0.heap.size w0 w' ∧ Kept w w' (fun k_ => P0_ k_) := by
 unfold slices_Compact_int_int.f at h
 split at h
 case isFalse => cases h
 rename_i hs
 obtain rfl := Option.some.inj h
 have hown := Kd.own_of_R ho0
 have hok := ho0.1
 rcases hown.2 with ⟨rfl, hn⟩ | ⟨g, cap, cur, rfl, hg, hb, hle, hcap, hcs, htk⟩
 ·obtain rfl : l0 = [] := List.eq_nil_of_length_eq_zero hn
  refine (Try.slices_Compact_int_empty none 0 w).mono ?_
  rintro e w' ⟨rfl, rfl⟩
  exact ⟨_, rfl, Kd.R_nil _ _ _ _ _, hB, Kept.refl _ _⟩
 ·have hlt : g < w.heap.size := lt_of_block hb
  have hH := holds_of_blockI (ss := l0) hb (by have := htk; rw [Nat.mul_one] at this; exact this)
  refine (Try.slices_Compact_int g 0 cap l0 w hH hs hle).mono ?_
  rintro e w' ⟨rfl, n, rfl⟩
  have hcl : (Lib.compact l0).length ≤ l0.length := Lib.compact_length_le l0
  have hgr := grownBy_sortedI (w := w) (g := g) (n := n) (os := #[]) (Lib.compact l0 ++ List.replicate (l0.length - (Lib.compact l0).length) 0).toArray
  rw [Go.Sort.grow_empty] at hgr
  have hl : (Lib.compact l0 ++ List.replicate (l0.length - (Lib.compact l0).length) (0 : Int)).length = l0.length := by rw [List.length_append, List.length_replicate]; omega
  have ho := ownsRow_sortedI (n := n) (os := #[]) (base := w0.heap.size) (ss := l0) (ts := Lib.compact l0 ++ List.replicate (l0.length - (Lib.compact l0).length) 0) hl hg hb hle hcap hcs
  rw [Go.Sort.grow_empty] at ho
  have hR : Kd.R (Kd.int .i64) 3 _ w0.heap.size (fun k_ => (P0_ k_ ∨ w.heap.size ≤ k_)) (.slice (some ⟨g, 0, none⟩) l0.length cap) (Lib.compact l0 ++ List.replicate (l0.length - (Lib.compact l0).length) 0) := Kd.R_of_own (by rw [hl]; exact ho) (fun k hk => .inl (hok k hk))
  have hT := Kd.R_take (m := (Lib.compact l0).length) hR (by rw [hl]; exact hcl)
  rw [List.take_left] at hT
  exact ⟨_, rfl, hT, hB.grown hgr hB.size (fun k hk => by obtain rfl := Option.some.inj hk; exact hg), hgr.size, fun i hi hn => hgr.block i hi (fun e => hn (hok i (by obtain rfl := Option.some.inj e; rfl)))⟩

/-! ### spoof_Scripts: function 18 -/
def spoof_Scripts.l0 : Nat → List Int → List Int → Int → Int → Option (List Int)
 | 0, _, _, _, _ => none
 | k + 1, x3, x8, x9, x10 => if x10 < x9 then (if 0 ≤ x10 then (if x10 < (x8.length : Int) then ((spoof_script.f k (rd x8 x10)).bind fun t201 => (if t201 > 0 then (if x3.length < 17592186044416 then (spoof_Scripts.l0 k (x3 ++ [t201]) x8 x9 (wrap64 (x10 + 1))) else (none)) else (spoof_Scripts.l0 k x3 x8 x9 (wrap64 (x10 + 1))))) else (none)) else (none)) else ((slices_Sort_int_int.f x3).bind fun t205 => ((slices_Compact_int_int.f t205).bind fun t206 => (some t206)))
def spoof_Scripts.f (k : Nat) (a0 : ByteArray) : Option (List Int) := (utf_Decode.f a0).bind fun t197 => (spoof_Scripts.l0 k ([] : List Int) t197 (t197.length : Int) 0)
theorem spoof_Scripts.mono_l : ∀ k, (∀ y0 y1 y2 y3, LeO (spoof_Scripts.l0 k y0 y1 y2 y3) (spoof_Scripts.l0 (k + 1) y0 y1 y2 y3))
 | 0 => fun _ _ _ _ r h => by simp [spoof_Scripts.l0] at h
 | k + 1 => by
  have ih0 := spoof_Scripts.mono_l k
  ·intro y0 y1 y2 y3
   unfold spoof_Scripts.l0
   repeat' first
   | (with_reducible exact ih0 _ _ _ _)
   | (with_reducible exact spoof_script.mono _ _)
   | (with_reducible exact LeO.refl _)
   | (with_reducible exact LeO.none _)
   | (with_reducible refine LeO.ite ?_ ?_)
   | (with_reducible refine LeO.bind ?_ (fun _ => ?_))
   | exact ih0 _ _ _ _
   | exact spoof_script.mono _ _
   | exact LeO.none _
   | refine LeO.ite ?_ ?_
   | refine LeO.bind ?_ (fun _ => ?_)
theorem spoof_Scripts.mono : ∀ a0 k, LeO (spoof_Scripts.f k a0) (spoof_Scripts.f (k + 1) a0) := by
 intro a0 k
 have ih0 := spoof_Scripts.mono_l k
 unfold spoof_Scripts.f
 repeat' first
   | (with_reducible exact ih0 _ _ _ _)
   | (with_reducible exact spoof_script.mono _ _)
   | (with_reducible exact LeO.refl _)
   | (with_reducible exact LeO.none _)
   | (with_reducible refine LeO.ite ?_ ?_)
   | (with_reducible refine LeO.bind ?_ (fun _ => ?_))
   | exact ih0 _ _ _ _
   | exact spoof_script.mono _ _
   | exact LeO.none _
   | refine LeO.ite ?_ ?_
   | refine LeO.bind ?_ (fun _ => ?_)
set_option maxHeartbeats 8000000 in
set_option maxRecDepth 100000 in
theorem spoof_Scripts.calls (k : Nat) (a0 : ByteArray) (r : List Int) (w : World) (h : spoof_Scripts.f k a0 = some r) :
  Calls Try.prog 18 #[.string a0] w fun e w' => ∃ v0_ : Value, e = .returned (v0_) ∧ Kd.R (Kd.int .i64) 3 w' w.heap.size (fun _ => True) v0_ r ∧ Below w.heap.size w w' := by
 have HB := Aside0.mk (Below.refl w.heap.size w)
 have H : ((utf_Decode.f a0).bind fun t197 => (spoof_Scripts.l0 k ([] : List Int) t197 (t197.length : Int) 0)) = some r := h
 clear h
 replace H := Option.bind_eq_some_iff.mp H
 obtain ⟨t197, A20, H⟩ := H
 replace H : (spoof_Scripts.l0 k ([] : List Int) t197 (t197.length : Int) 0) = some r := H
 have A2 := Aside0.mk A20
 clear A20
 have H' := Aside0.mk H
 clear H
 go_enter Try.func18, Try.ntmps18
 go_wp2_with (first | ((with_reducible refine gate_callee (f := 35) rfl ?_); refine goesL_ (some 8) rfl rfl Try.func35 (by kernel_rfl) rfl #[.string a0] rfl zl ?_; (with_reducible refine (utf_Decode.calls a0 t197 _ A2.out).mono ?_); rintro e w3 ⟨v198, rfl, ho0, hb⟩; refine ⟨_, rfl, ?_⟩; have n0_ := Aside0.mk (Kd.R_lower ho0 (below_size zb)); have n1_ := Aside0.mk (below_step zb hb); clear HB; have HO199 := n0_; have HB := n1_; clear n0_ n1_; (try clear hb); (try clear hb2); (try clear hk); (try clear hi); (try clear ho0); obtain ⟨Ao4, co4, eo4⟩ := Kd.R_slice HO199.out; subst eo4))
 go_loopg [3, 10] k (fun kq v3 v10 w' => ∃ (x3_1 : List Int) (x10_1 : Int), v10 = .int .i64 x10_1 ∧ Aside0 (spoof_Scripts.l0 kq x3_1 t197 (t197.length : Int) x10_1 = some r) ∧ Aside0 (kq ≤ k) ∧ Aside0 (Kd.R (Kd.int .i64) 3 w' w.heap.size (fun k_ => some k_ ≠ ((.slice Ao4 t197.length co4) : Value).ownBlock) v3 x3_1) ∧ Aside0 (Kd.R (Kd.int .i64) 3 w' w.heap.size (fun k_ => some k_ ≠ (v3 : Value).ownBlock) (.slice Ao4 t197.length co4) t197) ∧ Aside0 (Below w.heap.size w w'))
 case atStart => exact ⟨(([] : List Int)), (0), (by first | rfl | (simp; done) | (simp [*]; done)), H', ⟨Nat.le_refl _⟩, ⟨by first | exact Kd.R_nil _ _ _ _ _ | exact Kd.N_nil _ _ _ _ _ | exact Kd.V_nil _ _ _ _ _ | exact Kd.Q_nil _ _ _ _ _ | exact Kd.S_nil _ _ _ _ _⟩, ⟨by (with_reducible repeat (first | apply Kd.R_alloc | apply Kd.R_drewN | apply Kd.R_drew)); exact Kd.R_mono HO199.out (fun _ hk => (by simp [Value.ownBlock]))⟩, ⟨by repeat (first | (with_reducible first | exact HB.out | apply below_alloc | apply pw_below_drewN | apply below_drew1) | exact HB.out)⟩⟩
 case round =>
  clear H'
  try clear c1
  try clear p2
  try clear c3
  obtain ⟨x3_1, x10_1, rfl, HA, HK1, HO_3, HO_8, HB⟩ := hrel
  cases gk with
  | zero => exact absurd HA.out (by simp [spoof_Scripts.l0])
  | succ k1 =>
   have H := HA.out
   clear HA
   simp only [spoof_Scripts.l0] at H
   by_cases c5 : x10_1 < (t197.length : Int)
   ·rw [if_pos c5] at H
    have c5b0 : decide (x10_1 < (t197.length : Int)) = true := decide_eq_true c5
    clear c5
    by_cases c6 : 0 ≤ x10_1
    ·rw [if_pos c6] at H
     have c6b0 : decide (0 ≤ x10_1) = true := decide_eq_true c6
     clear c6
     by_cases c7 : x10_1 < (t197.length : Int)
     ·rw [if_pos c7] at H
      have c7b0 : decide (x10_1 < (t197.length : Int)) = true := decide_eq_true c7
      clear c7
      replace H := Option.bind_eq_some_iff.mp H
      obtain ⟨t201, A80, H⟩ := H
      replace H : (if t201 > 0 then (if x3_1.length < 17592186044416 then (spoof_Scripts.l0 k1 (x3_1 ++ [t201]) t197 (t197.length : Int) (wrap64 (x10_1 + 1))) else (none)) else (spoof_Scripts.l0 k1 x3_1 t197 (t197.length : Int) (wrap64 (x10_1 + 1)))) = some r := H
      have A8 := Aside0.mk A80
      clear A80
      by_cases c9 : t201 > 0
      ·rw [if_pos c9] at H
       have c9b0 : decide (0 < t201) = true := decide_eq_true c9
       clear c9
       by_cases c10 : x3_1.length < 17592186044416
       ·rw [if_pos c10] at H
        have LMc10 := Aside0.mk c10
        clear c10
        obtain ⟨y202, hy202⟩ : ∃ y_ : List Int, y_ = (x3_1 ++ [t201]) := ⟨_, rfl⟩
        replace H : (spoof_Scripts.l0 k1 y202 t197 (t197.length : Int) (wrap64 (x10_1 + 1))) = some r := by first | (rw [hy202]; with_reducible exact H) | (have H2_ := (Option.bind_some _ _).symm.trans H; rw [hy202]; with_reducible exact H2_) | (have H2_ := (Option.bind_some _ _).symm.trans H; with_reducible exact H2_) | with_reducible exact H | (rw [hy202]; exact H) | exact H
        have Ny202 := Aside0.mk hy202
        clear hy202
        have H' := Aside0.mk H
        clear H
        have p200 : 0 ≤ (x10_1 : Int) := of_decide_eq_true za
        have q200 : x10_1 < (t197.length : Int) := of_decide_eq_true za
        obtain ⟨ad200, e200, hx200_0⟩ := Kd.at_int (Kd.R_reads' HO_8.out).2.2 x10_1 p200 q200
        cases e200
        replace p200 := eq_true p200
        replace q200 := eq_true q200
        go_wp2_with (first | ((with_reducible refine gate_callee (f := 36) rfl ?_); refine goesL_ (some 15) rfl rfl Try.func36 (by kernel_rfl) rfl #[.int .i64 (rd t197 x10_1)] rfl zl ?_; (with_reducible refine (spoof_script.calls k1 (rd t197 x10_1) t201 _ A8.out).mono ?_); rintro e w11 ⟨rfl, hb⟩; refine ⟨_, rfl, ?_⟩; have n0_ := Aside0.mk (Kd.R_below (zk HO_3.out) hb); have n1_ := Aside0.mk (Kd.R_below (zk HO_8.out) hb); have n2_ := Aside0.mk (below_step zb hb); clear HO_3; clear HO_8; clear HB; have HO_3 := n0_; have HO_8 := n1_; have HB := n2_; clear n0_ n1_ n2_; (try clear hb); (try clear hb2); (try clear hk); (try clear hi)) | ((with_reducible refine gate_builtin (b := .append) (xs := #[.tmp 18, .tmp 20]) rfl ?_); at_builtin; refine Kd.R_append (Kd.int .i64) (w0 := w) w.heap.size rfl (.tmp 18) (.tmp 20) 24 3 (.int .i64 0) 8 rfl Try.underlying24 info3 rfl (by decide) (by omega) u3 x3_1 t201 [.int .i64 t201] (fun k_ => some k_ ≠ (.slice (some ad200) t197.length co4 : Value).ownBlock) (fun _ => False) rfl rfl ?aP (fun _ hk => hk.elim) ?aF ?aO ?aB ?aS ?aL ?_; (case aP => exact rfl); (case aB => exact zb); (case aF => exact (fun k_ hk => Kd.fresh' (Kd.R_lt (zk HO_8.out)) k_ hk)); (case aO => exact (zk HO_3.out)); (case aS => exact (below_size zb)); (case aL => have := LMc10.out; omega); intro v203 w12 ho hb hg hat; rw [← Ny202.out] at ho; have n0_ := Aside0.mk (Kd.R_after (ok := (fun _ => True)) (by (with_reducible repeat (first | apply Kd.R_alloc | apply Kd.R_drewN | apply Kd.R_drew)); exact Kd.R_mono HO_8.out (fun _ hk => ⟨trivial, hk⟩)) hg hat); have n1_ := Aside0.mk (hb); have n2_ := Aside0.mk (ho); clear HO_8; clear HB; clear HO_3; have HO_8 := n0_; have HB := n1_; have HO204 := n2_; clear n0_ n1_ n2_; clear ho hb hg hat))
        go_roundg k1
        case measure => have := HK1.out; omega
        case rel => exact ⟨(y202), (wrap64 (x10_1 + 1)), (by first | rfl | (simp; done) | (simp [*]; done)), H', ⟨by have := HK1.out; omega⟩, ⟨by (with_reducible repeat (first | apply Kd.R_alloc | apply Kd.R_drewN | apply Kd.R_drew)); exact HO204.out⟩, ⟨by (with_reducible repeat (first | apply Kd.R_alloc | apply Kd.R_drewN | apply Kd.R_drew)); exact Kd.R_mono HO_8.out (fun _ hk => hk.2)⟩, ⟨by repeat (first | (with_reducible first | exact HB.out | apply below_alloc | apply pw_below_drewN | apply below_drew1) | exact HB.out)⟩⟩
       ·rw [if_neg c10] at H
        exact absurd H (by simp)
      ·rw [if_neg c9] at H
       have c9b0 : decide (0 < t201) = false := decide_eq_false c9
       clear c9
       have H' := Aside0.mk H
       clear H
       have p200 : 0 ≤ (x10_1 : Int) := of_decide_eq_true za
       have q200 : x10_1 < (t197.length : Int) := of_decide_eq_true za
       obtain ⟨ad200, e200, hx200_0⟩ := Kd.at_int (Kd.R_reads' HO_8.out).2.2 x10_1 p200 q200
       cases e200
       replace p200 := eq_true p200
       replace q200 := eq_true q200
       go_wp2_with (first | ((with_reducible refine gate_callee (f := 36) rfl ?_); refine goesL_ (some 15) rfl rfl Try.func36 (by kernel_rfl) rfl #[.int .i64 (rd t197 x10_1)] rfl zl ?_; (with_reducible refine (spoof_script.calls k1 (rd t197 x10_1) t201 _ A8.out).mono ?_); rintro e w13 ⟨rfl, hb⟩; refine ⟨_, rfl, ?_⟩; have n0_ := Aside0.mk (Kd.R_below (zk HO_3.out) hb); have n1_ := Aside0.mk (Kd.R_below (zk HO_8.out) hb); have n2_ := Aside0.mk (below_step zb hb); clear HO_3; clear HO_8; clear HB; have HO_3 := n0_; have HO_8 := n1_; have HB := n2_; clear n0_ n1_ n2_; (try clear hb); (try clear hb2); (try clear hk); (try clear hi)))
       go_roundg k1
       case measure => have := HK1.out; omega
       case rel => exact ⟨(x3_1), (wrap64 (x10_1 + 1)), (by first | rfl | (simp; done) | (simp [*]; done)), H', ⟨by have := HK1.out; omega⟩, ⟨by (with_reducible repeat (first | apply Kd.R_alloc | apply Kd.R_drewN | apply Kd.R_drew)); exact HO_3.out⟩, ⟨by (with_reducible repeat (first | apply Kd.R_alloc | apply Kd.R_drewN | apply Kd.R_drew)); exact HO_8.out⟩, ⟨by repeat (first | (with_reducible first | exact HB.out | apply below_alloc | apply pw_below_drewN | apply below_drew1) | exact HB.out)⟩⟩
     ·rw [if_neg c7] at H
      exact absurd H (by simp)
    ·rw [if_neg c6] at H
     exact absurd H (by simp)
   ·rw [if_neg c5] at H
    have c5b0 : decide (x10_1 < (t197.length : Int)) = false := decide_eq_false c5
    clear c5
    replace H := Option.bind_eq_some_iff.mp H
    obtain ⟨t205, A140, H⟩ := H
    replace H : ((slices_Compact_int_int.f t205).bind fun t206 => (some t206)) = some r := H
    have A14 := Aside0.mk A140
    clear A140
    replace H := Option.bind_eq_some_iff.mp H
    obtain ⟨t206, A150, H⟩ := H
    replace H : (some t206) = some r := H
    have A15 := Aside0.mk A150
    clear A150
    obtain rfl := Option.some.inj H
    obtain ⟨Ao16, co16, eo16⟩ := Kd.R_slice HO_3.out
    subst eo16
    go_wp2_with (first | ((with_reducible refine gate_callee (f := 37) rfl ?_); refine goesL_ (some 24) rfl rfl Try.func37 (by kernel_rfl) rfl #[.slice Ao16 x3_1.length co16] rfl zl ?_; (with_reducible refine (slices_Sort_int_int.calls (fun k_ => some k_ = (.slice Ao16 x3_1.length co16 : Value).ownBlock) (.slice Ao16 x3_1.length co16) x3_1 t205 w _ ?side1 ?side2 A14.out).mono ?_); (case side1 => repeat (first | (with_reducible first | exact HB.out | apply below_alloc | apply pw_below_drewN | apply below_drew1) | exact HB.out)); (case side2 => exact Kd.R_tight rfl HO_3.out); rintro e w17 ⟨rfl, hy0, hb, hkp⟩; refine ⟨_, rfl, ?_⟩; have n0_ := Aside0.mk (Kd.R_reok rfl hy0 (fun k_ e_ => HO_3.out.1 k_ e_)); have n1_ := Aside0.mk (Kd.R_mono (ok' := fun k_ => some k_ ≠ (.slice Ao16 x3_1.length co16 : Value).ownBlock) (Kd.R_keptB (HO_8.out) hkp (fun k_ hk_ hs_ => (hk_) hs_)) (fun k_ hk_ => hk_.1)); have n2_ := Aside0.mk (hb); clear HO_3; clear HO_8; clear HB; have HO_3 := n0_; have HO_8 := n1_; have HB := n2_; clear n0_ n1_ n2_; (try clear hb); (try clear hkp); (try clear hy0)) | ((with_reducible refine gate_callee (f := 38) rfl ?_); refine goesL_ (some 26) rfl rfl Try.func38 (by kernel_rfl) rfl #[.slice Ao16 x3_1.length co16] rfl zl ?_; (with_reducible refine (slices_Compact_int_int.calls (fun k_ => some k_ = (.slice Ao16 x3_1.length co16 : Value).ownBlock) (.slice Ao16 x3_1.length co16) t205 t206 w _ ?side1 ?side2 A15.out).mono ?_); (case side1 => repeat (first | (with_reducible first | exact HB.out | apply below_alloc | apply pw_below_drewN | apply below_drew1) | exact HB.out)); (case side2 => exact Kd.R_tight rfl HO_3.out); rintro e w18 ⟨v207, rfl, ho0, hb, hkp⟩; refine ⟨_, rfl, ?_⟩; have n0_ := Aside0.mk (Kd.R_mono (ok' := fun k_ => some k_ ≠ (v207 : Value).ownBlock) (Kd.R_keptB (HO_8.out) hkp (fun k_ hk_ hs_ => (hk_) hs_)) (fun k_ hk_ => fun e_ => Or.elim (ho0.1 k_ e_.symm) (fun hs_ => hk_.2.1 hs_) (fun hn_ => Nat.not_le.2 hk_.2.2 hn_))); have n1_ := Aside0.mk (Kd.R_mono (ok' := fun k_ => some k_ ≠ (.slice Ao4 t197.length co4 : Value).ownBlock) ho0 (fun k_ hk_ => Or.elim hk_ (fun hs_ => fun e_ => (((HO_8.out).1 k_ e_.symm)) hs_) (fun hn_ => (Kd.fresh' (Kd.R_lt (zk HO_8.out)) k_ hn_)))); have n2_ := Aside0.mk (hb); clear HO_8; clear HB; clear HO_3; have HO_8 := n0_; have HO208 := n1_; have HB := n2_; clear n0_ n1_ n2_; (try clear hb); (try clear hkp); (try clear ho0)))
    go_ret
    exact ⟨_, zr, by (with_reducible repeat (first | apply Kd.R_alloc | apply Kd.R_drewN | apply Kd.R_drew)); exact Kd.R_mono HO208.out (fun _ hk => trivial), by repeat (first | (with_reducible first | exact HB.out | apply below_alloc | apply pw_below_drewN | apply below_drew1) | exact HB.out)⟩

/-! ### spoof_Mixed: function 19 -/
def spoof_Mixed.l0 : Nat → Int → List Int → Int → Int → Option (Bool)
 | 0, _, _, _, _ => none
 | k + 1, x4, x9, x10, x11 => if x11 < x10 then (if 0 ≤ x11 then (if x11 < (x9.length : Int) then (if (rd x9 x11) ≤ 3 then (spoof_Mixed.l0 k (wrap64 (x4 + 1)) x9 x10 (wrap64 (x11 + 1))) else (spoof_Mixed.l0 k x4 x9 x10 (wrap64 (x11 + 1)))) else (none)) else (none)) else (some (decide (x4 > 1)))
def spoof_Mixed.f (k : Nat) (a0 : ByteArray) : Option (Bool) := (spoof_Scripts.f k a0).bind fun t209 => (spoof_Mixed.l0 k 0 t209 (t209.length : Int) 0)
theorem spoof_Mixed.mono_l : ∀ k, (∀ y0 y1 y2 y3, LeO (spoof_Mixed.l0 k y0 y1 y2 y3) (spoof_Mixed.l0 (k + 1) y0 y1 y2 y3))
 | 0 => fun _ _ _ _ r h => by simp [spoof_Mixed.l0] at h
 | k + 1 => by
  have ih0 := spoof_Mixed.mono_l k
  ·intro y0 y1 y2 y3
   unfold spoof_Mixed.l0
   repeat' first
   | (with_reducible exact ih0 _ _ _ _)
   | (with_reducible exact spoof_Scripts.mono _ _)
   | (with_reducible exact LeO.refl _)
   | (with_reducible exact LeO.none _)
   | (with_reducible refine LeO.ite ?_ ?_)
   | (with_reducible refine LeO.bind ?_ (fun _ => ?_))
   | exact ih0 _ _ _ _
   | exact spoof_Scripts.mono _ _
   | exact LeO.none _
   | refine LeO.ite ?_ ?_
   | refine LeO.bind ?_ (fun _ => ?_)
theorem spoof_Mixed.mono : ∀ a0 k, LeO (spoof_Mixed.f k a0) (spoof_Mixed.f (k + 1) a0) := by
 intro a0 k
 have ih0 := spoof_Mixed.mono_l k
 unfold spoof_Mixed.f
 repeat' first
   | (with_reducible exact ih0 _ _ _ _)
   | (with_reducible exact spoof_Scripts.mono _ _)
   | (with_reducible exact LeO.refl _)
   | (with_reducible exact LeO.none _)
   | (with_reducible refine LeO.ite ?_ ?_)
   | (with_reducible refine LeO.bind ?_ (fun _ => ?_))
   | exact ih0 _ _ _ _
   | exact spoof_Scripts.mono _ _
   | exact LeO.none _
   | refine LeO.ite ?_ ?_
   | refine LeO.bind ?_ (fun _ => ?_)
set_option maxHeartbeats 8000000 in
set_option maxRecDepth 100000 in
theorem spoof_Mixed.calls (k : Nat) (a0 : ByteArray) (r : Bool) (w : World) (h : spoof_Mixed.f k a0 = some r) :
  Calls Try.prog 19 #[.string a0] w fun e w' => e = .returned (.bool r) ∧ Below w.heap.size w w' := by
 have HB := Aside0.mk (Below.refl w.heap.size w)
 have H : ((spoof_Scripts.f k a0).bind fun t209 => (spoof_Mixed.l0 k 0 t209 (t209.length : Int) 0)) = some r := h
 clear h
 replace H := Option.bind_eq_some_iff.mp H
 obtain ⟨t209, A20, H⟩ := H
 replace H : (spoof_Mixed.l0 k 0 t209 (t209.length : Int) 0) = some r := H
 have A2 := Aside0.mk A20
 clear A20
 have H' := Aside0.mk H
 clear H
 go_enter Try.func19, Try.ntmps19
 go_wp2_with (first | ((with_reducible refine gate_callee (f := 18) rfl ?_); refine goesL_ (some 8) rfl rfl Try.func18 (by kernel_rfl) rfl #[.string a0] rfl zl ?_; (with_reducible refine (spoof_Scripts.calls k a0 t209 _ A2.out).mono ?_); rintro e w3 ⟨v210, rfl, ho0, hb⟩; refine ⟨_, rfl, ?_⟩; have n0_ := Aside0.mk (Kd.R_lower ho0 (below_size zb)); have n1_ := Aside0.mk (below_step zb hb); clear HB; have HO211 := n0_; have HB := n1_; clear n0_ n1_; (try clear hb); (try clear hb2); (try clear hk); (try clear hi); (try clear ho0); obtain ⟨Ao4, co4, eo4⟩ := Kd.R_slice HO211.out; subst eo4))
 go_loopg [4, 11] k (fun kq v4 v11 w' => ∃ (x4_1 : Int) (x11_1 : Int), v4 = .int .i64 x4_1 ∧ v11 = .int .i64 x11_1 ∧ Aside0 (spoof_Mixed.l0 kq x4_1 t209 (t209.length : Int) x11_1 = some r) ∧ Aside0 (kq ≤ k) ∧ Aside0 (Kd.R (Kd.int .i64) 3 w' w.heap.size (fun _ => True) (.slice Ao4 t209.length co4) t209) ∧ Aside0 (Below w.heap.size w w'))
 case atStart => exact ⟨(0), (0), (by first | rfl | (simp; done) | (simp [*]; done)), (by first | rfl | (simp; done) | (simp [*]; done)), H', ⟨Nat.le_refl _⟩, ⟨by (with_reducible repeat (first | apply Kd.R_alloc | apply Kd.R_drewN | apply Kd.R_drew)); exact HO211.out⟩, ⟨by repeat (first | (with_reducible first | exact HB.out | apply below_alloc | apply pw_below_drewN | apply below_drew1) | exact HB.out)⟩⟩
 case round =>
  clear H'
  try clear c1
  try clear p2
  obtain ⟨x4_1, x11_1, rfl, rfl, HA, HK1, HO_9, HB⟩ := hrel
  cases gk with
  | zero => exact absurd HA.out (by simp [spoof_Mixed.l0])
  | succ k1 =>
   have H := HA.out
   clear HA
   simp only [spoof_Mixed.l0] at H
   by_cases c5 : x11_1 < (t209.length : Int)
   ·rw [if_pos c5] at H
    have c5b0 : decide (x11_1 < (t209.length : Int)) = true := decide_eq_true c5
    clear c5
    by_cases c6 : 0 ≤ x11_1
    ·rw [if_pos c6] at H
     have c6b0 : decide (0 ≤ x11_1) = true := decide_eq_true c6
     clear c6
     by_cases c7 : x11_1 < (t209.length : Int)
     ·rw [if_pos c7] at H
      have c7b0 : decide (x11_1 < (t209.length : Int)) = true := decide_eq_true c7
      clear c7
      by_cases c8 : (rd t209 x11_1) ≤ 3
      ·rw [if_pos c8] at H
       have c8b0 : decide ((rd t209 x11_1) ≤ 3) = true := decide_eq_true c8
       clear c8
       have H' := Aside0.mk H
       clear H
       have p212 : 0 ≤ (x11_1 : Int) := of_decide_eq_true za
       have q212 : x11_1 < (t209.length : Int) := of_decide_eq_true za
       obtain ⟨ad212, e212, hx212_0⟩ := Kd.at_int (Kd.R_reads' HO_9.out).2.2 x11_1 p212 q212
       cases e212
       replace p212 := eq_true p212
       replace q212 := eq_true q212
       go_wp2
       go_roundg k1
       case measure => have := HK1.out; omega
       case rel => exact ⟨(wrap64 (x4_1 + 1)), (wrap64 (x11_1 + 1)), (by first | rfl | (simp; done) | (simp [*]; done)), (by first | rfl | (simp; done) | (simp [*]; done)), H', ⟨by have := HK1.out; omega⟩, ⟨by (with_reducible repeat (first | apply Kd.R_alloc | apply Kd.R_drewN | apply Kd.R_drew)); exact HO_9.out⟩, ⟨by repeat (first | (with_reducible first | exact HB.out | apply below_alloc | apply pw_below_drewN | apply below_drew1) | exact HB.out)⟩⟩
      ·rw [if_neg c8] at H
       have c8b0 : decide ((rd t209 x11_1) ≤ 3) = false := decide_eq_false c8
       clear c8
       have H' := Aside0.mk H
       clear H
       have p212 : 0 ≤ (x11_1 : Int) := of_decide_eq_true za
       have q212 : x11_1 < (t209.length : Int) := of_decide_eq_true za
       obtain ⟨ad212, e212, hx212_0⟩ := Kd.at_int (Kd.R_reads' HO_9.out).2.2 x11_1 p212 q212
       cases e212
       replace p212 := eq_true p212
       replace q212 := eq_true q212
       go_wp2
       go_roundg k1
       case measure => have := HK1.out; omega
       case rel => exact ⟨(x4_1), (wrap64 (x11_1 + 1)), (by first | rfl | (simp; done) | (simp [*]; done)), (by first | rfl | (simp; done) | (simp [*]; done)), H', ⟨by have := HK1.out; omega⟩, ⟨by (with_reducible repeat (first | apply Kd.R_alloc | apply Kd.R_drewN | apply Kd.R_drew)); exact HO_9.out⟩, ⟨by repeat (first | (with_reducible first | exact HB.out | apply below_alloc | apply pw_below_drewN | apply below_drew1) | exact HB.out)⟩⟩
     ·rw [if_neg c7] at H
      exact absurd H (by simp)
    ·rw [if_neg c6] at H
     exact absurd H (by simp)
   ·rw [if_neg c5] at H
    have c5b0 : decide (x11_1 < (t209.length : Int)) = false := decide_eq_false c5
    clear c5
    obtain rfl := Option.some.inj H
    go_wp2
    go_ret
    exact ⟨zr, zb⟩

/-! ### slices_IndexFunc_string_string: function 39 -/
def idx_string.g (p : ByteArray → Bool) : List ByteArray → Nat → Int
 | [], _ => -1
 | x :: xs, i => if p x = true then (i : Int) else idx_string.g p xs (i + 1)
theorem idx_string.g_drop (p : ByteArray → Bool) (l : List ByteArray) (k : Nat) (h : k < l.length) : idx_string.g p (l.drop k) k = if p (rdOf ByteArray.empty l (k : Int)) = true then (k : Int) else idx_string.g p (l.drop (k + 1)) (k + 1) := by
 rw [List.drop_eq_getElem_cons h]
 have e : rdOf ByteArray.empty l (k : Int) = l[k] := by
  unfold rdOf
  rw [Int.toNat_natCast, List.getD_eq_getElem?_getD, List.getElem?_eq_getElem h]
  rfl
 rw [e]
 rfl
theorem idx_string.mem (l : List ByteArray) (k : Nat) (h : k < l.length) : rdOf ByteArray.empty l (k : Int) ∈ l := by
 have e : rdOf ByteArray.empty l (k : Int) = l[k] := by
  unfold rdOf
  rw [Int.toNat_natCast, List.getD_eq_getElem?_getD, List.getElem?_eq_getElem h]
  rfl
 rw [e]
 exact List.getElem_mem h
theorem idx_string.g_ge (p : ByteArray → Bool) (l : List ByteArray) : ∀ i : Nat, decide (idx_string.g p l i ≥ 0) = l.any p := by
 induction l with
 | nil => intro i; rfl
 | cons x xs ih =>
  intro i
  by_cases h : p x = true
  ·simp only [idx_string.g, if_pos h, List.any_cons, h, Bool.true_or]
   exact decide_eq_true (by omega : (i : Int) ≥ 0)
  ·simp only [idx_string.g, if_neg h, List.any_cons, ih (i + 1)]
   simp [h]
theorem idx_string.g_lt (p : ByteArray → Bool) (l : List ByteArray) : ∀ i : Nat, idx_string.g p l i < (i : Int) + (l.length : Int) ∨ idx_string.g p l i = -1 := by
 induction l with
 | nil => intro i; exact .inr rfl
 | cons x xs ih =>
  intro i
  unfold idx_string.g
  split
  ·left; simp only [List.length_cons]; omega
  ·rcases ih (i + 1) with h | h
   ·left; simp only [List.length_cons]; omega
   ·exact .inr h
set_option maxHeartbeats 8000000 in
set_option maxRecDepth 100000 in
theorem idx_string.calls (p : ByteArray → Bool) (g : Nat) (lb : Array Value) (eg : ∀ args w, (callFunc g args).run Try.prog w = .ok (.enter g args) w)
  (A1 : Option Addr) (c1 : Nat) (l1 : List ByteArray) (w : World) (hr1 : Kd.C Kd.string w A1 l1.length l1) (hl1 : l1.length < 9223372036854775807)
  (hp : ∀ (W : World) (x : ByteArray), x ∈ l1 → Below w.heap.size w W → Calls Try.prog g (#[.string x] ++ lb) W fun e w' => e = .returned (.bool (p x)) ∧ Below W.heap.size W w') :
  Calls Try.prog 39 #[.slice A1 l1.length c1, .func (.func g) #[] lb] w fun e w' => e = .returned (.int .i64 (idx_string.g p l1 0)) ∧ Below w.heap.size w w' := by
 have HR1 := Aside0.mk hr1
 have HP := Aside0.mk hp
 clear hr1 hp
 generalize hn : l1.length = n at hl1 HR1 ⊢
 have HN := Aside0.mk hn
 clear hn
 go_enter Try.func39, Try.ntmps39
 go_wp2
 go_loopg [5, 8] n (fun gg _ s8 wr => ∃ kk : Nat, kk ≤ n ∧ n - kk ≤ gg ∧ s8 = .int .i64 kk ∧ Aside0 (Below w.heap.size w wr) ∧ Aside0 (idx_string.g p (l1.drop kk) kk = idx_string.g p l1 0))
 case atStart => exact ⟨0, Nat.zero_le _, by omega, rfl, ⟨Below.refl _ w⟩, ⟨by simp⟩⟩
 case round =>
  obtain ⟨kk, hkk, hg, rfl, BW, A⟩ := hrel
  by_cases hlt : kk < n
  ·have hltz : (kk : Int) < (n : Int) := by omega
   have hlen : kk < l1.length := by rw [HN.out]; exact hlt
   obtain ⟨ad, e0, hx0⟩ := Kd.at_string (Kd.C_below HR1.out BW.out) (kk : Int) (by omega) (by omega)
   cases e0
   have hgd := idx_string.g_drop p l1 kk hlen
   have hcall := HP.out wr (rdOf ByteArray.empty l1 (kk : Int)) (idx_string.mem l1 kk hlen) BW.out
   have hk0 : 0 ≤ (kk : Int) := by omega
   simp only [Int.toNat_natCast] at hx0
   generalize hy : rdOf ByteArray.empty l1 (kk : Int) = y at hcall hgd hx0
   clear hy
   cases hq : p y with
   | true =>
    rw [hq] at hcall
    have A2 : Aside0 (idx_string.g p l1 0 = (kk : Int)) := ⟨by rw [← A.out, hgd, if_pos hq]⟩
    clear A hgd hq hlen HP
    go_wp2_with fail
    refine hcall.mono ?_
    rintro e w' ⟨rfl, hb'⟩
    clear hcall hx0
    go_wp2_with fail
    go_ret
    exact ⟨by rw [A2.out]; rfl, below_then BW.out BW.out.size hb'⟩
   | false =>
    rw [hq] at hcall
    have A2 : Aside0 (idx_string.g p (l1.drop (kk + 1)) (kk + 1) = idx_string.g p l1 0) := ⟨by rw [← A.out, hgd, if_neg (by simp [hq])]⟩
    clear A hgd hq hlen HP
    go_wp2_with fail
    refine hcall.mono ?_
    rintro e w' ⟨rfl, hb'⟩
    clear hcall hx0
    go_wp2_with fail
    go_roundg (n - (kk + 1))
    case measure => omega
    case rel => exact ⟨kk + 1, by omega, by omega, by go_num, ⟨below_then BW.out BW.out.size hb'⟩, A2⟩
  ·have hltz : ¬ (kk : Int) < (n : Int) := by omega
   have : kk = n := by omega
   subst this
   have A2 : Aside0 (idx_string.g p l1 0 = -1) := ⟨by rw [← A.out, List.drop_eq_nil_of_le (by rw [HN.out]; exact Nat.le_refl _)]; rfl⟩
   clear A HP
   go_wp2
   go_ret
   exact ⟨by rw [A2.out]; rfl, BW.out⟩

-- NOT PRINTED: function 40 (spoof_Find_1)

end Go.Proofs.Ytpkmoonfnbcphaa.PAll
