-- Printed for this claim by the session's own program (wip/tool/hprint.py) over the kit's print; some functions' texts are the session's own.
import Derived.Test.YtpkmoonfnbcphaaPAllx0
import Derived.Test.YtpkmoonfnbcphaaPAllx4
import Derived.Test.YtpkmoonfnbcphaaPAllx5
import Derived.Test.YtpkmoonfnbcphaaPAllx7
import Derived.Test.YtpkmoonfnbcphaaPAllx8
import Derived.Test.YtpkmoonfnbcphaaPAllx10
namespace Go.Proofs.Ytpkmoonfnbcphaa.PAll
open Go.RowKit Go.Proofs.YtpkmoonfnbcphaaW.PrintWords Go.Proofs.YtpkmoonfnbcphaaW.PrintLast Go.Proofs.YtpkmoonfnbcphaaW.PrintMore
attribute [local go_sem] max2_int min2_int max_two min_two max_three min_three max_four min_four   -- for this text's walks alone
set_option linter.unusedVariables false
set_option linter.unusedSimpArgs false

/-! ### dactylref01_Ints: function 17 -/
def dactylref01_Ints.l0 : Nat → List Int → List Int → Int → Option (Bool)
 | 0, _, _, _ => none
 | k + 1, x0, x1, x5 => if x5 < (x0.length : Int) then (if 0 ≤ x5 then (if x5 < (x1.length : Int) then (if (rd x0 x5) = (rd x1 x5) then (dactylref01_Ints.l0 k x0 x1 (wrap64 (x5 + 1))) else (some false)) else (none)) else (none)) else (some true)
def dactylref01_Ints.f (k : Nat) (l0 : List Int) (l1 : List Int) : Option (Bool) := if (l0.length : Int) = (l1.length : Int) then (dactylref01_Ints.l0 k l0 l1 0) else (some false)
theorem dactylref01_Ints.mono_l : ∀ k, (∀ y0 y1 y2, LeO (dactylref01_Ints.l0 k y0 y1 y2) (dactylref01_Ints.l0 (k + 1) y0 y1 y2))
 | 0 => fun _ _ _ r h => by simp [dactylref01_Ints.l0] at h
 | k + 1 => by
  have ih0 := dactylref01_Ints.mono_l k
  ·intro y0 y1 y2
   unfold dactylref01_Ints.l0
   repeat' first
   | (with_reducible exact ih0 _ _ _)
   | (with_reducible exact LeO.refl _)
   | (with_reducible exact LeO.none _)
   | (with_reducible refine LeO.ite ?_ ?_)
   | (with_reducible refine LeO.bind ?_ (fun _ => ?_))
   | exact ih0 _ _ _
   | exact LeO.none _
   | refine LeO.ite ?_ ?_
   | refine LeO.bind ?_ (fun _ => ?_)
theorem dactylref01_Ints.mono : ∀ a0 a1 k, LeO (dactylref01_Ints.f k a0 a1) (dactylref01_Ints.f (k + 1) a0 a1) := by
 intro a0 a1 k
 have ih0 := dactylref01_Ints.mono_l k
 unfold dactylref01_Ints.f
 repeat' first
   | (with_reducible exact ih0 _ _ _)
   | (with_reducible exact LeO.refl _)
   | (with_reducible exact LeO.none _)
   | (with_reducible refine LeO.ite ?_ ?_)
   | (with_reducible refine LeO.bind ?_ (fun _ => ?_))
   | exact ih0 _ _ _
   | exact LeO.none _
   | refine LeO.ite ?_ ?_
   | refine LeO.bind ?_ (fun _ => ?_)
set_option maxHeartbeats 8000000 in
set_option maxRecDepth 100000 in
theorem dactylref01_Ints.calls (k : Nat) (A0 : Option Addr) (c0 : Nat) (l0 : List Int) (A1 : Option Addr) (c1 : Nat) (l1 : List Int) (r : Bool) (w : World) (hr0 : Kd.C (Kd.int .i64) w A0 l0.length l0) (hc0 : l0.length ≤ c0) (hr1 : Kd.C (Kd.int .i64) w A1 l1.length l1) (hc1 : l1.length ≤ c1) (h : dactylref01_Ints.f k l0 l1 = some r) :
  Calls Try.prog 17 #[.slice A0 l0.length c0, .slice A1 l1.length c1] w fun e w' => e = .returned (.bool r) ∧ Drawn0 w w' := by
 have HR0 := Aside0.mk hr0
 have HC0 := Aside0.mk hc0
 clear hr0 hc0
 have HR1 := Aside0.mk hr1
 have HC1 := Aside0.mk hc1
 clear hr1 hc1
 have H : (if (l0.length : Int) = (l1.length : Int) then (dactylref01_Ints.l0 k l0 l1 0) else (some false)) = some r := h
 clear h
 by_cases c3 : (l0.length : Int) = (l1.length : Int)
 ·rw [if_pos c3] at H
  have c3b0 : ((l0.length : Int) == (l1.length : Int)) = true := beq_iff_eq.mpr c3
  have c3b1 : ((l0.length : Int) != (l1.length : Int)) = false := bne_eq_false_iff_eq.mpr c3
  have c3b2 : (l0.length == l1.length) = true := by first | simpa using c3 | (simp at c3 ⊢; omega)
  clear c3
  have H' := Aside0.mk H
  clear H
  go_enter Try.func17, Try.ntmps17
  go_wp2
  repeat (go_quiet (fail); try go_wp2)
  go_loopg [5] k (fun kq v5 w' => ∃ (x5_1 : Int), v5 = .int .i64 x5_1 ∧ Aside0 (dactylref01_Ints.l0 kq l0 l1 x5_1 = some r) ∧ Aside0 (kq ≤ k) ∧ Drawn0 w w')
  case atStart => exact ⟨(0), (by first | rfl | (simp; done) | (simp [*]; done)), H', ⟨Nat.le_refl _⟩, by repeat (first | exact Drawn0.refl _ | apply Drawn0.step)⟩
  case round =>
   clear H'
   try clear c1
   try clear p2
   try clear c3
   try clear c3b0
   try clear c3b1
   try clear c3b2
   obtain ⟨x5_1, rfl, HA, HK1, ⟨m1, rfl⟩⟩ := hrel
   cases gk with
   | zero => exact absurd HA.out (by simp [dactylref01_Ints.l0])
   | succ k1 =>
    have H := HA.out
    clear HA
    simp only [dactylref01_Ints.l0] at H
    by_cases c4 : x5_1 < (l0.length : Int)
    ·rw [if_pos c4] at H
     have c4b0 : decide (x5_1 < (l0.length : Int)) = true := decide_eq_true c4
     clear c4
     by_cases c5 : 0 ≤ x5_1
     ·rw [if_pos c5] at H
      have c5b0 : decide (0 ≤ x5_1) = true := decide_eq_true c5
      clear c5
      by_cases c6 : x5_1 < (l1.length : Int)
      ·rw [if_pos c6] at H
       have c6b0 : decide (x5_1 < (l1.length : Int)) = true := decide_eq_true c6
       clear c6
       by_cases c7 : (rd l0 x5_1) = (rd l1 x5_1)
       ·rw [if_pos c7] at H
        have c7b0 : ((rd l0 x5_1) == (rd l1 x5_1)) = true := beq_iff_eq.mpr c7
        have c7b1 : ((rd l0 x5_1) != (rd l1 x5_1)) = false := bne_eq_false_iff_eq.mpr c7
        clear c7
        have H' := Aside0.mk H
        clear H
        have p347 : 0 ≤ (x5_1 : Int) := of_decide_eq_true za
        have q347 : x5_1 < (l0.length : Int) := of_decide_eq_true za
        obtain ⟨ad347, e347, hx347_0⟩ := Kd.at_int HR0.out x5_1 p347 q347
        cases e347
        replace p347 := eq_true p347
        replace q347 := eq_true q347
        have p348 : 0 ≤ (x5_1 : Int) := of_decide_eq_true za
        have q348 : x5_1 < (l1.length : Int) := of_decide_eq_true za
        obtain ⟨ad348, e348, hx348_0⟩ := Kd.at_int HR1.out x5_1 p348 q348
        cases e348
        replace p348 := eq_true p348
        replace q348 := eq_true q348
        go_wp2
        repeat (go_quiet (fail); try go_wp2)
        go_roundg k1
        case measure => have := HK1.out; omega
        case rel => exact ⟨(wrap64 (x5_1 + 1)), (by first | rfl | (simp; done) | (simp [*]; done)), H', ⟨by have := HK1.out; omega⟩, by repeat (first | exact Drawn0.refl _ | apply Drawn0.step)⟩
       ·rw [if_neg c7] at H
        have c7b0 : ((rd l0 x5_1) == (rd l1 x5_1)) = false := beq_eq_false_iff_ne.mpr c7
        have c7b1 : ((rd l0 x5_1) != (rd l1 x5_1)) = true := bne_iff_ne.mpr c7
        obtain rfl := Option.some.inj H
        have p347 : 0 ≤ (x5_1 : Int) := of_decide_eq_true za
        have q347 : x5_1 < (l0.length : Int) := of_decide_eq_true za
        obtain ⟨ad347, e347, hx347_0⟩ := Kd.at_int HR0.out x5_1 p347 q347
        cases e347
        replace p347 := eq_true p347
        replace q347 := eq_true q347
        have p348 : 0 ≤ (x5_1 : Int) := of_decide_eq_true za
        have q348 : x5_1 < (l1.length : Int) := of_decide_eq_true za
        obtain ⟨ad348, e348, hx348_0⟩ := Kd.at_int HR1.out x5_1 p348 q348
        cases e348
        replace p348 := eq_true p348
        replace q348 := eq_true q348
        go_wp2
        repeat (go_quiet (fail); try go_wp2)
        go_ret
        exact ⟨by first | rfl | (simp; done) | (simp [*]; done), by repeat (first | exact Drawn0.refl _ | apply Drawn0.step)⟩
      ·rw [if_neg c6] at H
       exact absurd H (by simp)
     ·rw [if_neg c5] at H
      exact absurd H (by simp)
    ·rw [if_neg c4] at H
     have c4b0 : decide (x5_1 < (l0.length : Int)) = false := decide_eq_false c4
     clear c4
     obtain rfl := Option.some.inj H
     go_wp2
     repeat (go_quiet (fail); try go_wp2)
     go_ret
     exact ⟨by first | rfl | (simp; done) | (simp [*]; done), by repeat (first | exact Drawn0.refl _ | apply Drawn0.step)⟩
 ·rw [if_neg c3] at H
  have c3b0 : ((l0.length : Int) == (l1.length : Int)) = false := beq_eq_false_iff_ne.mpr c3
  have c3b1 : ((l0.length : Int) != (l1.length : Int)) = true := bne_iff_ne.mpr c3
  have c3b2 : (l0.length == l1.length) = false := by first | simpa using c3 | (simp at c3 ⊢; omega)
  obtain rfl := Option.some.inj H
  go_enter Try.func17, Try.ntmps17
  go_wp2
  repeat (go_quiet (fail); try go_wp2)
  go_ret
  exact ⟨by first | rfl | (simp; done) | (simp [*]; done), by repeat (first | exact Drawn0.refl _ | apply Drawn0.step)⟩

/-! ### dactyllaw44_SpoofScripts: function 5 -/
mutual
def dactyllaw44_SpoofScripts.j0 : Nat → ByteArray → List ByteArray → Bool → Option (Bool)
 | 0, _, _, _ => none
 | k + 1, x0, x1, x19 => if x19 = true then ((dactyllaw44_awake.f k).bind fun t349 => (some t349)) else (dactyllaw44_SpoofScripts.l0 k x0 x1 ([] : List Int) 1)
def dactyllaw44_SpoofScripts.l0 : Nat → ByteArray → List ByteArray → List Int → Int → Option (Bool)
 | 0, _, _, _, _ => none
 | k + 1, x0, x1, x5, x6 => if x6 ≤ 4 then ((dactylref44_Has.f k x0 x6).bind fun t350 => (if t350 = true then (if x5.length < 17592186044416 then (dactyllaw44_SpoofScripts.l0 k x0 x1 (x5 ++ [x6]) (wrap64 (x6 + 1))) else (none)) else (dactyllaw44_SpoofScripts.l0 k x0 x1 x5 (wrap64 (x6 + 1))))) else (dactyllaw44_SpoofScripts.l1 k x0 x1 x5 (-1) (wrap64 ((x1.length : Int) - 1)))
def dactyllaw44_SpoofScripts.l1 : Nat → ByteArray → List ByteArray → List Int → Int → Int → Option (Bool)
 | 0, _, _, _, _, _ => none
 | k + 1, x0, x1, x5, x7, x8 => if x8 ≥ 0 then (if 0 ≤ x8 then (if x8 < (x1.length : Int) then (if ((rdOf ByteArray.empty x1 x8).size : Int) > 200 then ((dactyllaw44_awake.f k).bind fun t355 => (some t355)) else (if (rdOf ByteArray.empty x1 x8).toList = x0.toList then (dactyllaw44_SpoofScripts.l1 k x0 x1 x5 x7 (wrap64 (x8 - 1))) else ((dactylref44_Strip.f k (rdOf ByteArray.empty x1 x8)).bind fun t358 => ((dactylref44_Fold.f k t358).bind fun t359 => ((dactylref44_Strip.f k x0).bind fun t360 => ((dactylref44_Fold.f k t360).bind fun t361 => (if t359.toList = t361.toList then (dactyllaw44_SpoofScripts.l1 k x0 x1 x5 x8 (wrap64 (x8 - 1))) else (dactyllaw44_SpoofScripts.l1 k x0 x1 x5 x7 (wrap64 (x8 - 1)))))))))) else (none)) else (none)) else ((dactylref44_Has.f k x0 1).bind fun t362 => ((dactylref44_Has.f k x0 2).bind fun t363 => ((dactylref44_Has.f k x0 3).bind fun t364 => ((dactyllaw44_awake.f k).bind fun t365 => (if t365 = true then ((spoof_Scripts.f k x0).bind fun t366 => ((dactylref01_Ints.f k t366 x5).bind fun t369 => (if t369 = true then ((spoof_Mixed.f k x0).bind fun t370 => (if t362 = true then (if t363 = true then (if (t370 == true) = true then ((spoof_Find.f k x0 x1).bind fun t371 => (some (t371 == x7))) else (some false)) else (if t364 = true then (if (t370 == true) = true then ((spoof_Find.f k x0 x1).bind fun t372 => (some (t372 == x7))) else (some false)) else (if (t370 == false) = true then ((spoof_Find.f k x0 x1).bind fun t373 => (some (t373 == x7))) else (some false)))) else (if t363 = true then (if (t370 == t364) = true then ((spoof_Find.f k x0 x1).bind fun t374 => (some (t374 == x7))) else (some false)) else (if (t370 == false) = true then ((spoof_Find.f k x0 x1).bind fun t375 => (some (t375 == x7))) else (some false))))) else (some false)))) else (some false))))))
end
def dactyllaw44_SpoofScripts.f (k : Nat) (a0 : ByteArray) (l1 : List ByteArray) : Option (Bool) := if (a0.size : Int) > 200 then (dactyllaw44_SpoofScripts.j0 k a0 l1 true) else (dactyllaw44_SpoofScripts.j0 k a0 l1 (decide ((l1.length : Int) > 12)))
theorem dactyllaw44_SpoofScripts.mono_l : ∀ k, (∀ y0 y1 y2, LeO (dactyllaw44_SpoofScripts.j0 k y0 y1 y2) (dactyllaw44_SpoofScripts.j0 (k + 1) y0 y1 y2)) ∧ (∀ y0 y1 y2 y3, LeO (dactyllaw44_SpoofScripts.l0 k y0 y1 y2 y3) (dactyllaw44_SpoofScripts.l0 (k + 1) y0 y1 y2 y3)) ∧ (∀ y0 y1 y2 y3 y4, LeO (dactyllaw44_SpoofScripts.l1 k y0 y1 y2 y3 y4) (dactyllaw44_SpoofScripts.l1 (k + 1) y0 y1 y2 y3 y4))
 | 0 => ⟨fun _ _ _ r h => by simp [dactyllaw44_SpoofScripts.j0] at h, fun _ _ _ _ r h => by simp [dactyllaw44_SpoofScripts.l0] at h, fun _ _ _ _ _ r h => by simp [dactyllaw44_SpoofScripts.l1] at h⟩
 | k + 1 => by
  obtain ⟨ih0, ih1, ih2⟩ := dactyllaw44_SpoofScripts.mono_l k
  refine ⟨?_, ?_, ?_⟩
  ·intro y0 y1 y2
   unfold dactyllaw44_SpoofScripts.j0
   repeat' first
   | (with_reducible exact ih0 _ _ _)
   | (with_reducible exact ih1 _ _ _ _)
   | (with_reducible exact ih2 _ _ _ _ _)
   | (with_reducible exact dactyllaw44_awake.mono _)
   | (with_reducible exact dactylref01_Ints.mono _ _ _)
   | (with_reducible exact dactylref44_Fold.mono _ _)
   | (with_reducible exact dactylref44_Has.mono _ _ _)
   | (with_reducible exact dactylref44_Strip.mono _ _)
   | (with_reducible exact spoof_Find.mono _ _ _)
   | (with_reducible exact spoof_Mixed.mono _ _)
   | (with_reducible exact spoof_Scripts.mono _ _)
   | (with_reducible exact LeO.refl _)
   | (with_reducible exact LeO.none _)
   | (with_reducible refine LeO.ite ?_ ?_)
   | (with_reducible refine LeO.bind ?_ (fun _ => ?_))
   | exact ih0 _ _ _
   | exact ih1 _ _ _ _
   | exact ih2 _ _ _ _ _
   | exact dactyllaw44_awake.mono _
   | exact dactylref01_Ints.mono _ _ _
   | exact dactylref44_Fold.mono _ _
   | exact dactylref44_Has.mono _ _ _
   | exact dactylref44_Strip.mono _ _
   | exact spoof_Find.mono _ _ _
   | exact spoof_Mixed.mono _ _
   | exact spoof_Scripts.mono _ _
   | exact LeO.none _
   | refine LeO.ite ?_ ?_
   | refine LeO.bind ?_ (fun _ => ?_)
  ·intro y0 y1 y2 y3
   unfold dactyllaw44_SpoofScripts.l0
   repeat' first
   | (with_reducible exact ih0 _ _ _)
   | (with_reducible exact ih1 _ _ _ _)
   | (with_reducible exact ih2 _ _ _ _ _)
   | (with_reducible exact dactyllaw44_awake.mono _)
   | (with_reducible exact dactylref01_Ints.mono _ _ _)
   | (with_reducible exact dactylref44_Fold.mono _ _)
   | (with_reducible exact dactylref44_Has.mono _ _ _)
   | (with_reducible exact dactylref44_Strip.mono _ _)
   | (with_reducible exact spoof_Find.mono _ _ _)
   | (with_reducible exact spoof_Mixed.mono _ _)
   | (with_reducible exact spoof_Scripts.mono _ _)
   | (with_reducible exact LeO.refl _)
   | (with_reducible exact LeO.none _)
   | (with_reducible refine LeO.ite ?_ ?_)
   | (with_reducible refine LeO.bind ?_ (fun _ => ?_))
   | exact ih0 _ _ _
   | exact ih1 _ _ _ _
   | exact ih2 _ _ _ _ _
   | exact dactyllaw44_awake.mono _
   | exact dactylref01_Ints.mono _ _ _
   | exact dactylref44_Fold.mono _ _
   | exact dactylref44_Has.mono _ _ _
   | exact dactylref44_Strip.mono _ _
   | exact spoof_Find.mono _ _ _
   | exact spoof_Mixed.mono _ _
   | exact spoof_Scripts.mono _ _
   | exact LeO.none _
   | refine LeO.ite ?_ ?_
   | refine LeO.bind ?_ (fun _ => ?_)
  ·intro y0 y1 y2 y3 y4
   unfold dactyllaw44_SpoofScripts.l1
   repeat' first
   | (with_reducible exact ih0 _ _ _)
   | (with_reducible exact ih1 _ _ _ _)
   | (with_reducible exact ih2 _ _ _ _ _)
   | (with_reducible exact dactyllaw44_awake.mono _)
   | (with_reducible exact dactylref01_Ints.mono _ _ _)
   | (with_reducible exact dactylref44_Fold.mono _ _)
   | (with_reducible exact dactylref44_Has.mono _ _ _)
   | (with_reducible exact dactylref44_Strip.mono _ _)
   | (with_reducible exact spoof_Find.mono _ _ _)
   | (with_reducible exact spoof_Mixed.mono _ _)
   | (with_reducible exact spoof_Scripts.mono _ _)
   | (with_reducible exact LeO.refl _)
   | (with_reducible exact LeO.none _)
   | (with_reducible refine LeO.ite ?_ ?_)
   | (with_reducible refine LeO.bind ?_ (fun _ => ?_))
   | exact ih0 _ _ _
   | exact ih1 _ _ _ _
   | exact ih2 _ _ _ _ _
   | exact dactyllaw44_awake.mono _
   | exact dactylref01_Ints.mono _ _ _
   | exact dactylref44_Fold.mono _ _
   | exact dactylref44_Has.mono _ _ _
   | exact dactylref44_Strip.mono _ _
   | exact spoof_Find.mono _ _ _
   | exact spoof_Mixed.mono _ _
   | exact spoof_Scripts.mono _ _
   | exact LeO.none _
   | refine LeO.ite ?_ ?_
   | refine LeO.bind ?_ (fun _ => ?_)
theorem dactyllaw44_SpoofScripts.mono : ∀ a0 a1 k, LeO (dactyllaw44_SpoofScripts.f k a0 a1) (dactyllaw44_SpoofScripts.f (k + 1) a0 a1) := by
 intro a0 a1 k
 obtain ⟨ih0, ih1, ih2⟩ := dactyllaw44_SpoofScripts.mono_l k
 unfold dactyllaw44_SpoofScripts.f
 repeat' first
   | (with_reducible exact ih0 _ _ _)
   | (with_reducible exact ih1 _ _ _ _)
   | (with_reducible exact ih2 _ _ _ _ _)
   | (with_reducible exact dactyllaw44_awake.mono _)
   | (with_reducible exact dactylref01_Ints.mono _ _ _)
   | (with_reducible exact dactylref44_Fold.mono _ _)
   | (with_reducible exact dactylref44_Has.mono _ _ _)
   | (with_reducible exact dactylref44_Strip.mono _ _)
   | (with_reducible exact spoof_Find.mono _ _ _)
   | (with_reducible exact spoof_Mixed.mono _ _)
   | (with_reducible exact spoof_Scripts.mono _ _)
   | (with_reducible exact LeO.refl _)
   | (with_reducible exact LeO.none _)
   | (with_reducible refine LeO.ite ?_ ?_)
   | (with_reducible refine LeO.bind ?_ (fun _ => ?_))
   | exact ih0 _ _ _
   | exact ih1 _ _ _ _
   | exact ih2 _ _ _ _ _
   | exact dactyllaw44_awake.mono _
   | exact dactylref01_Ints.mono _ _ _
   | exact dactylref44_Fold.mono _ _
   | exact dactylref44_Has.mono _ _ _
   | exact dactylref44_Strip.mono _ _
   | exact spoof_Find.mono _ _ _
   | exact spoof_Mixed.mono _ _
   | exact spoof_Scripts.mono _ _
   | exact LeO.none _
   | refine LeO.ite ?_ ?_
   | refine LeO.bind ?_ (fun _ => ?_)
set_option maxHeartbeats 8000000 in
set_option maxRecDepth 100000 in
theorem dactyllaw44_SpoofScripts.calls (k : Nat) (a0 : ByteArray) (A1 : Option Addr) (c1 : Nat) (l1 : List ByteArray) (r : Bool) (w : World) (hr1 : Kd.C Kd.string w A1 l1.length l1) (hc1 : l1.length ≤ c1) (h : dactyllaw44_SpoofScripts.f k a0 l1 = some r) :
  Calls Try.prog 5 #[.string a0, .slice A1 l1.length c1] w fun e w' => e = .returned (.bool r) ∧ Below w.heap.size w w' := by
 have HR1 := Aside0.mk hr1
 have HC1 := Aside0.mk hc1
 clear hr1 hc1
 have HB := Aside0.mk (Below.refl w.heap.size w)
 have H : (if (a0.size : Int) > 200 then (dactyllaw44_SpoofScripts.j0 k a0 l1 true) else (dactyllaw44_SpoofScripts.j0 k a0 l1 (decide ((l1.length : Int) > 12)))) = some r := h
 clear h
 have HC3 := Aside0.mk H
 clear H
 go_enter Try.func5, Try.ntmps5
 go_upto_region 1 with (fail)
 go_cut [19] (fun v19 wc => ∃ (kq : Nat) (x19_2 : Bool), v19 = .bool x19_2 ∧ Aside0 (dactyllaw44_SpoofScripts.j0 kq a0 l1 x19_2 = some r) ∧ Aside0 (kq ≤ k) ∧ Aside0 (Below w.heap.size w wc))
 case first =>
  have H := HC3.out
  clear HC3
  by_cases c4 : (a0.size : Int) > 200
  ·rw [if_pos c4] at H
   have c4b0 : decide (200 < (a0.size : Int)) = true := decide_eq_true c4
   have c4b1 : decide (200 < a0.size) = true := decide_eq_true (by omega)
   clear c4
   (first | rw [c4b0] | (simp only [i64_w, i32_w]; rw [c4b0]) | skip)
   have H' := Aside0.mk H
   clear H
   go_wp2
   go_meet
   case rel => exact ⟨_, (true), (by first | rfl | (simp; done) | (simp [*]; done)), H', ⟨by first | omega | exact Nat.le_refl _⟩, ⟨by repeat (first | (with_reducible first | exact HB.out | apply below_alloc | apply pw_below_drewN | apply below_drew1) | exact HB.out)⟩⟩
  ·rw [if_neg c4] at H
   have c4b0 : decide (200 < (a0.size : Int)) = false := decide_eq_false c4
   have c4b1 : decide (200 < a0.size) = false := decide_eq_false (by omega)
   clear c4
   (first | rw [c4b0] | (simp only [i64_w, i32_w]; rw [c4b0]) | skip)
   have H' := Aside0.mk H
   clear H
   go_wp2
   go_meet
   case rel => exact ⟨_, (decide ((l1.length : Int) > 12)), (by first | rfl | (simp; done) | (simp [*]; done)), H', ⟨by first | omega | exact Nat.le_refl _⟩, ⟨by repeat (first | (with_reducible first | exact HB.out | apply below_alloc | apply pw_below_drewN | apply below_drew1) | exact HB.out)⟩⟩
 case rest =>
  clear HC3
  try clear c1
  try clear p2
  try clear c4
  try clear c4b0
  try clear c4b1
  obtain ⟨kq, x19_2, rfl, HA, HJ2, HB⟩ := hcut
  cases kq with
  | zero => exact absurd HA.out (by simp [dactyllaw44_SpoofScripts.j0])
  | succ kj2 =>
   have H := HA.out
   clear HA
   simp only [dactyllaw44_SpoofScripts.j0] at H
   by_cases c5 : x19_2 = true
   ·subst c5
    have H1 : ((dactyllaw44_awake.f kj2).bind fun t349 => (some t349)) = some r := by rw [if_pos rfl] at H; exact H
    clear H
    have H := H1
    clear H1
    replace H := Option.bind_eq_some_iff.mp H
    obtain ⟨t349, A60, H⟩ := H
    replace H : (some t349) = some r := H
    have A6 := Aside0.mk A60
    clear A60
    obtain rfl := Option.some.inj H
    go_wp2_with (first | ((with_reducible refine gate_callee (f := 6) rfl ?_); refine goesL_ (some 20) rfl rfl Try.func6 (by kernel_rfl) rfl #[] rfl zl ?_; (with_reducible refine (dactyllaw44_awake.calls kj2  t349 _ A6.out).mono ?_); rintro e w7 ⟨rfl, hb⟩; refine ⟨_, rfl, ?_⟩; have n0_ := Aside0.mk (below_step zb hb); clear HB; have HB := n0_; clear n0_; (try clear hb); (try clear hb2); (try clear hk); (try clear hi)))
    go_ret
    exact ⟨zr, zb⟩
   ·replace c5 := Bool.eq_false_iff.mpr c5
    subst c5
    have H1 : (dactyllaw44_SpoofScripts.l0 kj2 a0 l1 ([] : List Int) 1) = some r := by rw [if_neg (show ¬ (false = true) by decide)] at H; exact H
    clear H
    have H := H1
    clear H1
    have H' := Aside0.mk H
    clear H
    go_wp2
    go_loopg [5, 6] kj2 (fun kq v5 v6 w' => ∃ (x5_2 : List Int) (x6_2 : Int), v6 = .int .i64 x6_2 ∧ Aside0 (dactyllaw44_SpoofScripts.l0 kq a0 l1 x5_2 x6_2 = some r) ∧ Aside0 (kq ≤ kj2) ∧ Aside0 (Kd.R (Kd.int .i64) 3 w' w.heap.size (fun _ => True) v5 x5_2) ∧ Aside0 (Below w.heap.size w w'))
    case atStart => exact ⟨(([] : List Int)), (1), (by first | rfl | (simp; done) | (simp [*]; done)), H', ⟨Nat.le_refl _⟩, ⟨by first | exact Kd.R_nil _ _ _ _ _ | exact Kd.N_nil _ _ _ _ _ | exact Kd.V_nil _ _ _ _ _ | exact Kd.Q_nil _ _ _ _ _ | exact Kd.S_nil _ _ _ _ _⟩, ⟨by repeat (first | (with_reducible first | exact HB.out | apply below_alloc | apply pw_below_drewN | apply below_drew1) | exact HB.out)⟩⟩
    case round =>
     clear H'
     try clear c1
     try clear p2
     try clear c4
     try clear c4b0
     try clear c4b1
     try clear c5
     try clear c6
     try clear p2
     obtain ⟨x5_2, x6_2, rfl, HA, HK2, HO_5, HB⟩ := hrel
     cases gk with
     | zero => exact absurd HA.out (by simp [dactyllaw44_SpoofScripts.l0])
     | succ k2 =>
      have H := HA.out
      clear HA
      simp only [dactyllaw44_SpoofScripts.l0] at H
      by_cases c8 : x6_2 ≤ 4
      ·rw [if_pos c8] at H
       have c8b0 : decide (x6_2 ≤ 4) = true := decide_eq_true c8
       clear c8
       replace H := Option.bind_eq_some_iff.mp H
       obtain ⟨t350, A90, H⟩ := H
       replace H : (if t350 = true then (if x5_2.length < 17592186044416 then (dactyllaw44_SpoofScripts.l0 k2 a0 l1 (x5_2 ++ [x6_2]) (wrap64 (x6_2 + 1))) else (none)) else (dactyllaw44_SpoofScripts.l0 k2 a0 l1 x5_2 (wrap64 (x6_2 + 1)))) = some r := H
       have A9 := Aside0.mk A90
       clear A90
       by_cases c10 : t350 = true
       ·subst c10
        have H1 : (if x5_2.length < 17592186044416 then (dactyllaw44_SpoofScripts.l0 k2 a0 l1 (x5_2 ++ [x6_2]) (wrap64 (x6_2 + 1))) else (none)) = some r := by rw [if_pos rfl] at H; exact H
        clear H
        have H := H1
        clear H1
        by_cases c11 : x5_2.length < 17592186044416
        ·rw [if_pos c11] at H
         have LMc11 := Aside0.mk c11
         clear c11
         obtain ⟨y351, hy351⟩ : ∃ y_ : List Int, y_ = (x5_2 ++ [x6_2]) := ⟨_, rfl⟩
         replace H : (dactyllaw44_SpoofScripts.l0 k2 a0 l1 y351 (wrap64 (x6_2 + 1))) = some r := by first | (rw [hy351]; with_reducible exact H) | (have H2_ := (Option.bind_some _ _).symm.trans H; rw [hy351]; with_reducible exact H2_) | (have H2_ := (Option.bind_some _ _).symm.trans H; with_reducible exact H2_) | with_reducible exact H | (rw [hy351]; exact H) | exact H
         have Ny351 := Aside0.mk hy351
         clear hy351
         have H' := Aside0.mk H
         clear H
         go_wp2_with (first | ((with_reducible refine gate_callee (f := 16) rfl ?_); refine goesL_ (some 27) rfl rfl Try.func16 (by kernel_rfl) rfl #[.string a0, .int .i64 x6_2] rfl zl ?_; (with_reducible refine (dactylref44_Has.calls k2 a0 x6_2 true _ A9.out).mono ?_); rintro e w12 ⟨rfl, hb⟩; refine ⟨_, rfl, ?_⟩; have n0_ := Aside0.mk (Kd.R_below (zk HO_5.out) hb); have n1_ := Aside0.mk (below_step zb hb); clear HO_5; clear HB; have HO_5 := n0_; have HB := n1_; clear n0_ n1_; (try clear hb); (try clear hb2); (try clear hk); (try clear hi)) | ((with_reducible refine gate_builtin (b := .append) (xs := #[.tmp 28, .tmp 30]) rfl ?_); (try (refine gate_guard (by rfl) ?_; dsimp only)); at_builtin; refine Kd.R_append (Kd.int .i64) (w0 := w) w.heap.size rfl (.tmp 28) (.tmp 30) 24 3 (.int .i64 0) 8 rfl Try.underlying24 info3 rfl (by decide) (by omega) u5 x5_2 x6_2 [.int .i64 x6_2] (fun _ => True) (fun _ => False) rfl rfl ?aP (fun _ hk => hk.elim) ?aF ?aO ?aB ?aS ?aL ?_; (case aP => exact rfl); (case aB => exact zb); (case aF => exact (fun _ _ => trivial)); (case aO => exact (zk HO_5.out)); (case aS => exact (below_size zb)); (case aL => have := LMc11.out; omega); intro v352 w13 ho hb hg hat; rw [← Ny351.out] at ho; have n0_ := Aside0.mk (hb); have n1_ := Aside0.mk (ho); clear HB; clear HO_5; have HB := n0_; have HO353 := n1_; clear n0_ n1_; clear ho hb hg hat))
         go_roundg k2
         case measure => have := HJ2.out; have := HK2.out; omega
         case rel => exact ⟨(y351), (wrap64 (x6_2 + 1)), (by first | rfl | (simp; done) | (simp [*]; done)), H', ⟨by have := HJ2.out; have := HK2.out; omega⟩, ⟨by (with_reducible repeat (first | apply Kd.R_alloc | apply Kd.R_drewN | apply Kd.R_drew)); exact HO353.out⟩, ⟨by repeat (first | (with_reducible first | exact HB.out | apply below_alloc | apply pw_below_drewN | apply below_drew1) | exact HB.out)⟩⟩
        ·rw [if_neg c11] at H
         exact absurd H (by simp)
       ·replace c10 := Bool.eq_false_iff.mpr c10
        subst c10
        have H1 : (dactyllaw44_SpoofScripts.l0 k2 a0 l1 x5_2 (wrap64 (x6_2 + 1))) = some r := by rw [if_neg (show ¬ (false = true) by decide)] at H; exact H
        clear H
        have H := H1
        clear H1
        have H' := Aside0.mk H
        clear H
        go_wp2_with (first | ((with_reducible refine gate_callee (f := 16) rfl ?_); refine goesL_ (some 27) rfl rfl Try.func16 (by kernel_rfl) rfl #[.string a0, .int .i64 x6_2] rfl zl ?_; (with_reducible refine (dactylref44_Has.calls k2 a0 x6_2 false _ A9.out).mono ?_); rintro e w14 ⟨rfl, hb⟩; refine ⟨_, rfl, ?_⟩; have n0_ := Aside0.mk (Kd.R_below (zk HO_5.out) hb); have n1_ := Aside0.mk (below_step zb hb); clear HO_5; clear HB; have HO_5 := n0_; have HB := n1_; clear n0_ n1_; (try clear hb); (try clear hb2); (try clear hk); (try clear hi)))
        go_roundg k2
        case measure => have := HJ2.out; have := HK2.out; omega
        case rel => exact ⟨(x5_2), (wrap64 (x6_2 + 1)), (by first | rfl | (simp; done) | (simp [*]; done)), H', ⟨by have := HJ2.out; have := HK2.out; omega⟩, ⟨by (with_reducible repeat (first | apply Kd.R_alloc | apply Kd.R_drewN | apply Kd.R_drew)); exact HO_5.out⟩, ⟨by repeat (first | (with_reducible first | exact HB.out | apply below_alloc | apply pw_below_drewN | apply below_drew1) | exact HB.out)⟩⟩
      ·rw [if_neg c8] at H
       have c8b0 : decide (x6_2 ≤ 4) = false := decide_eq_false c8
       clear c8
       have H' := Aside0.mk H
       clear H
       go_wp2
       go_loopg [7, 8] k2 (fun kq v7 v8 w' => ∃ (x7_3 : Int) (x8_3 : Int), v7 = .int .i64 x7_3 ∧ v8 = .int .i64 x8_3 ∧ Aside0 (dactyllaw44_SpoofScripts.l1 kq a0 l1 x5_2 x7_3 x8_3 = some r) ∧ Aside0 (kq ≤ k2) ∧ Aside0 (Kd.R (Kd.int .i64) 3 w' w.heap.size (fun _ => True) u5 x5_2) ∧ Aside0 (Below w.heap.size w w'))
       case atStart => exact ⟨((-1)), (wrap64 ((l1.length : Int) - 1)), (by first | rfl | (simp; done) | (simp [*]; done)), (by first | rfl | (simp; done) | (simp [*]; done)), H', ⟨Nat.le_refl _⟩, ⟨by (with_reducible repeat (first | apply Kd.R_alloc | apply Kd.R_drewN | apply Kd.R_drew)); exact HO_5.out⟩, ⟨by repeat (first | (with_reducible first | exact HB.out | apply below_alloc | apply pw_below_drewN | apply below_drew1) | exact HB.out)⟩⟩
       case round =>
        clear H'
        try clear c1
        try clear p2
        try clear c4
        try clear c4b0
        try clear c4b1
        try clear c5
        try clear c6
        try clear p6
        try clear c8
        try clear c8b0
        try clear c10
        try clear c11
        try clear p2
        obtain ⟨x7_3, x8_3, rfl, rfl, HA, HK3, HO_5, HB⟩ := hrel
        cases gk with
        | zero => exact absurd HA.out (by simp [dactyllaw44_SpoofScripts.l1])
        | succ k3 =>
         have H := HA.out
         clear HA
         simp only [dactyllaw44_SpoofScripts.l1] at H
         by_cases c15 : x8_3 ≥ 0
         ·rw [if_pos c15] at H
          have c15b0 : decide (0 ≤ x8_3) = true := decide_eq_true c15
          clear c15
          by_cases c16 : 0 ≤ x8_3
          ·rw [if_pos c16] at H
           have c16b0 : decide (0 ≤ x8_3) = true := decide_eq_true c16
           clear c16
           by_cases c17 : x8_3 < (l1.length : Int)
           ·rw [if_pos c17] at H
            have c17b0 : decide (x8_3 < (l1.length : Int)) = true := decide_eq_true c17
            clear c17
            by_cases c18 : ((rdOf ByteArray.empty l1 x8_3).size : Int) > 200
            ·rw [if_pos c18] at H
             have c18b0 : decide (200 < ((rdOf ByteArray.empty l1 x8_3).size : Int)) = true := decide_eq_true c18
             have c18b1 : decide (200 < (rdOf ByteArray.empty l1 x8_3).size) = true := decide_eq_true (by omega)
             clear c18
             replace H := Option.bind_eq_some_iff.mp H
             obtain ⟨t355, A190, H⟩ := H
             replace H : (some t355) = some r := H
             have A19 := Aside0.mk A190
             clear A190
             obtain rfl := Option.some.inj H
             have p354 : 0 ≤ (x8_3 : Int) := of_decide_eq_true za
             have q354 : x8_3 < (l1.length : Int) := of_decide_eq_true za
             obtain ⟨ad354, e354, hx354_0⟩ := Kd.at_string HR1.out x8_3 p354 q354
             cases e354
             replace hx354_0 := (HB.out.cell (World.block_lt_of_cell? w _ hx354_0)).trans hx354_0
             replace p354 := eq_true p354
             replace q354 := eq_true q354
             go_wp2_with (first | ((with_reducible refine gate_callee (f := 6) rfl ?_); refine goesL_ (some 45) rfl rfl Try.func6 (by kernel_rfl) rfl #[] rfl zl ?_; (with_reducible refine (dactyllaw44_awake.calls k3  t355 _ A19.out).mono ?_); rintro e w20 ⟨rfl, hb⟩; refine ⟨_, rfl, ?_⟩; have n0_ := Aside0.mk (Kd.R_below (zk HO_5.out) hb); have n1_ := Aside0.mk (below_step zb hb); clear HO_5; clear HB; have HO_5 := n0_; have HB := n1_; clear n0_ n1_; (try clear hb); (try clear hb2); (try clear hk); (try clear hi)))
             go_ret
             exact ⟨zr, zb⟩
            ·rw [if_neg c18] at H
             have c18b0 : decide (200 < ((rdOf ByteArray.empty l1 x8_3).size : Int)) = false := decide_eq_false c18
             have c18b1 : decide (200 < (rdOf ByteArray.empty l1 x8_3).size) = false := decide_eq_false (by omega)
             clear c18
             by_cases c21 : (rdOf ByteArray.empty l1 x8_3).toList = a0.toList
             ·rw [if_pos c21] at H
              have c21b0 : ((rdOf ByteArray.empty l1 x8_3).toList == a0.toList) = true := beq_iff_eq.mpr c21
              have c21b1 : ((rdOf ByteArray.empty l1 x8_3).toList != a0.toList) = false := bne_eq_false_iff_eq.mpr c21
              clear c21
              have H' := Aside0.mk H
              clear H
              have p354 : 0 ≤ (x8_3 : Int) := of_decide_eq_true za
              have q354 : x8_3 < (l1.length : Int) := of_decide_eq_true za
              obtain ⟨ad354, e354, hx354_0⟩ := Kd.at_string HR1.out x8_3 p354 q354
              cases e354
              replace hx354_0 := (HB.out.cell (World.block_lt_of_cell? w _ hx354_0)).trans hx354_0
              replace p354 := eq_true p354
              replace q354 := eq_true q354
              have p356 : 0 ≤ (x8_3 : Int) := of_decide_eq_true za
              have q356 : x8_3 < (l1.length : Int) := of_decide_eq_true za
              obtain ⟨ad356, e356, hx356_0⟩ := Kd.at_string HR1.out x8_3 p356 q356
              obtain rfl : ad354 = ad356 := (by injection e356)
              replace hx356_0 := (HB.out.cell (World.block_lt_of_cell? w _ hx356_0)).trans hx356_0
              replace p356 := eq_true p356
              replace q356 := eq_true q356
              go_wp2
              go_roundg k3
              case measure => have := HJ2.out; have := HK2.out; have := HK3.out; omega
              case rel => exact ⟨(x7_3), (wrap64 (x8_3 - 1)), (by first | rfl | (simp; done) | (simp [*]; done)), (by first | rfl | (simp; done) | (simp [*]; done)), H', ⟨by have := HJ2.out; have := HK2.out; have := HK3.out; omega⟩, ⟨by (with_reducible repeat (first | apply Kd.R_alloc | apply Kd.R_drewN | apply Kd.R_drew)); exact HO_5.out⟩, ⟨by repeat (first | (with_reducible first | exact HB.out | apply below_alloc | apply pw_below_drewN | apply below_drew1) | exact HB.out)⟩⟩
             ·rw [if_neg c21] at H
              have c21b0 : ((rdOf ByteArray.empty l1 x8_3).toList == a0.toList) = false := beq_eq_false_iff_ne.mpr c21
              have c21b1 : ((rdOf ByteArray.empty l1 x8_3).toList != a0.toList) = true := bne_iff_ne.mpr c21
              replace H := Option.bind_eq_some_iff.mp H
              obtain ⟨t358, A220, H⟩ := H
              replace H : ((dactylref44_Fold.f k3 t358).bind fun t359 => ((dactylref44_Strip.f k3 a0).bind fun t360 => ((dactylref44_Fold.f k3 t360).bind fun t361 => (if t359.toList = t361.toList then (dactyllaw44_SpoofScripts.l1 k3 a0 l1 x5_2 x8_3 (wrap64 (x8_3 - 1))) else (dactyllaw44_SpoofScripts.l1 k3 a0 l1 x5_2 x7_3 (wrap64 (x8_3 - 1))))))) = some r := H
              have A22 := Aside0.mk A220
              clear A220
              replace H := Option.bind_eq_some_iff.mp H
              obtain ⟨t359, A230, H⟩ := H
              replace H : ((dactylref44_Strip.f k3 a0).bind fun t360 => ((dactylref44_Fold.f k3 t360).bind fun t361 => (if t359.toList = t361.toList then (dactyllaw44_SpoofScripts.l1 k3 a0 l1 x5_2 x8_3 (wrap64 (x8_3 - 1))) else (dactyllaw44_SpoofScripts.l1 k3 a0 l1 x5_2 x7_3 (wrap64 (x8_3 - 1)))))) = some r := H
              have A23 := Aside0.mk A230
              clear A230
              replace H := Option.bind_eq_some_iff.mp H
              obtain ⟨t360, A240, H⟩ := H
              replace H : ((dactylref44_Fold.f k3 t360).bind fun t361 => (if t359.toList = t361.toList then (dactyllaw44_SpoofScripts.l1 k3 a0 l1 x5_2 x8_3 (wrap64 (x8_3 - 1))) else (dactyllaw44_SpoofScripts.l1 k3 a0 l1 x5_2 x7_3 (wrap64 (x8_3 - 1))))) = some r := H
              have A24 := Aside0.mk A240
              clear A240
              replace H := Option.bind_eq_some_iff.mp H
              obtain ⟨t361, A250, H⟩ := H
              replace H : (if t359.toList = t361.toList then (dactyllaw44_SpoofScripts.l1 k3 a0 l1 x5_2 x8_3 (wrap64 (x8_3 - 1))) else (dactyllaw44_SpoofScripts.l1 k3 a0 l1 x5_2 x7_3 (wrap64 (x8_3 - 1)))) = some r := H
              have A25 := Aside0.mk A250
              clear A250
              by_cases c26 : t359.toList = t361.toList
              ·rw [if_pos c26] at H
               have c26b0 : (t359.toList == t361.toList) = true := beq_iff_eq.mpr c26
               have c26b1 : (t359.toList != t361.toList) = false := bne_eq_false_iff_eq.mpr c26
               clear c26
               have H' := Aside0.mk H
               clear H
               have p354 : 0 ≤ (x8_3 : Int) := of_decide_eq_true za
               have q354 : x8_3 < (l1.length : Int) := of_decide_eq_true za
               obtain ⟨ad354, e354, hx354_0⟩ := Kd.at_string HR1.out x8_3 p354 q354
               cases e354
               replace hx354_0 := (HB.out.cell (World.block_lt_of_cell? w _ hx354_0)).trans hx354_0
               replace p354 := eq_true p354
               replace q354 := eq_true q354
               have p356 : 0 ≤ (x8_3 : Int) := of_decide_eq_true za
               have q356 : x8_3 < (l1.length : Int) := of_decide_eq_true za
               obtain ⟨ad356, e356, hx356_0⟩ := Kd.at_string HR1.out x8_3 p356 q356
               obtain rfl : ad354 = ad356 := (by injection e356)
               replace hx356_0 := (HB.out.cell (World.block_lt_of_cell? w _ hx356_0)).trans hx356_0
               replace p356 := eq_true p356
               replace q356 := eq_true q356
               have p357 : 0 ≤ (x8_3 : Int) := of_decide_eq_true za
               have q357 : x8_3 < (l1.length : Int) := of_decide_eq_true za
               obtain ⟨ad357, e357, hx357_0⟩ := Kd.at_string HR1.out x8_3 p357 q357
               obtain rfl : ad354 = ad357 := (by injection e357)
               replace hx357_0 := (HB.out.cell (World.block_lt_of_cell? w _ hx357_0)).trans hx357_0
               replace p357 := eq_true p357
               replace q357 := eq_true q357
               go_wp2_with (first | (go_at_call 12; (with_reducible refine (dactylref44_Strip.calls k3 (rdOf ByteArray.empty l1 x8_3) t358 _ A22.out).mono ?_); rintro e w27 ⟨rfl, hb⟩; have n0_ := Aside0.mk (Kd.R_below (zk HO_5.out) hb); have n1_ := Aside0.mk (below_step zb hb); clear HO_5; clear HB; have HO_5 := n0_; have HB := n1_; clear n0_ n1_; (try clear hb); (try clear hb2); (try clear hk); (try clear hi)) | (go_at_call 14; (with_reducible refine (dactylref44_Fold.calls k3 t358 t359 _ A23.out).mono ?_); rintro e w28 ⟨rfl, hb⟩; have n0_ := Aside0.mk (Kd.R_below (zk HO_5.out) hb); have n1_ := Aside0.mk (below_step zb hb); clear HO_5; clear HB; have HO_5 := n0_; have HB := n1_; clear n0_ n1_; (try clear hb); (try clear hb2); (try clear hk); (try clear hi)) | (go_at_call 12; (with_reducible refine (dactylref44_Strip.calls k3 a0 t360 _ A24.out).mono ?_); rintro e w29 ⟨rfl, hb⟩; have n0_ := Aside0.mk (Kd.R_below (zk HO_5.out) hb); have n1_ := Aside0.mk (below_step zb hb); clear HO_5; clear HB; have HO_5 := n0_; have HB := n1_; clear n0_ n1_; (try clear hb); (try clear hb2); (try clear hk); (try clear hi)) | (go_at_call 14; (with_reducible refine (dactylref44_Fold.calls k3 t360 t361 _ A25.out).mono ?_); rintro e w30 ⟨rfl, hb⟩; have n0_ := Aside0.mk (Kd.R_below (zk HO_5.out) hb); have n1_ := Aside0.mk (below_step zb hb); clear HO_5; clear HB; have HO_5 := n0_; have HB := n1_; clear n0_ n1_; (try clear hb); (try clear hb2); (try clear hk); (try clear hi)))
               go_roundg k3
               case measure => have := HJ2.out; have := HK2.out; have := HK3.out; omega
               case rel => exact ⟨(x8_3), (wrap64 (x8_3 - 1)), (by first | rfl | (simp; done) | (simp [*]; done)), (by first | rfl | (simp; done) | (simp [*]; done)), H', ⟨by have := HJ2.out; have := HK2.out; have := HK3.out; omega⟩, ⟨by (with_reducible repeat (first | apply Kd.R_alloc | apply Kd.R_drewN | apply Kd.R_drew)); exact HO_5.out⟩, ⟨by repeat (first | (with_reducible first | exact HB.out | apply below_alloc | apply pw_below_drewN | apply below_drew1) | exact HB.out)⟩⟩
              ·rw [if_neg c26] at H
               have c26b0 : (t359.toList == t361.toList) = false := beq_eq_false_iff_ne.mpr c26
               have c26b1 : (t359.toList != t361.toList) = true := bne_iff_ne.mpr c26
               have H' := Aside0.mk H
               clear H
               have p354 : 0 ≤ (x8_3 : Int) := of_decide_eq_true za
               have q354 : x8_3 < (l1.length : Int) := of_decide_eq_true za
               obtain ⟨ad354, e354, hx354_0⟩ := Kd.at_string HR1.out x8_3 p354 q354
               cases e354
               replace hx354_0 := (HB.out.cell (World.block_lt_of_cell? w _ hx354_0)).trans hx354_0
               replace p354 := eq_true p354
               replace q354 := eq_true q354
               have p356 : 0 ≤ (x8_3 : Int) := of_decide_eq_true za
               have q356 : x8_3 < (l1.length : Int) := of_decide_eq_true za
               obtain ⟨ad356, e356, hx356_0⟩ := Kd.at_string HR1.out x8_3 p356 q356
               obtain rfl : ad354 = ad356 := (by injection e356)
               replace hx356_0 := (HB.out.cell (World.block_lt_of_cell? w _ hx356_0)).trans hx356_0
               replace p356 := eq_true p356
               replace q356 := eq_true q356
               have p357 : 0 ≤ (x8_3 : Int) := of_decide_eq_true za
               have q357 : x8_3 < (l1.length : Int) := of_decide_eq_true za
               obtain ⟨ad357, e357, hx357_0⟩ := Kd.at_string HR1.out x8_3 p357 q357
               obtain rfl : ad354 = ad357 := (by injection e357)
               replace hx357_0 := (HB.out.cell (World.block_lt_of_cell? w _ hx357_0)).trans hx357_0
               replace p357 := eq_true p357
               replace q357 := eq_true q357
               go_wp2_with (first | (go_at_call 12; (with_reducible refine (dactylref44_Strip.calls k3 (rdOf ByteArray.empty l1 x8_3) t358 _ A22.out).mono ?_); rintro e w31 ⟨rfl, hb⟩; have n0_ := Aside0.mk (Kd.R_below (zk HO_5.out) hb); have n1_ := Aside0.mk (below_step zb hb); clear HO_5; clear HB; have HO_5 := n0_; have HB := n1_; clear n0_ n1_; (try clear hb); (try clear hb2); (try clear hk); (try clear hi)) | (go_at_call 14; (with_reducible refine (dactylref44_Fold.calls k3 t358 t359 _ A23.out).mono ?_); rintro e w32 ⟨rfl, hb⟩; have n0_ := Aside0.mk (Kd.R_below (zk HO_5.out) hb); have n1_ := Aside0.mk (below_step zb hb); clear HO_5; clear HB; have HO_5 := n0_; have HB := n1_; clear n0_ n1_; (try clear hb); (try clear hb2); (try clear hk); (try clear hi)) | (go_at_call 12; (with_reducible refine (dactylref44_Strip.calls k3 a0 t360 _ A24.out).mono ?_); rintro e w33 ⟨rfl, hb⟩; have n0_ := Aside0.mk (Kd.R_below (zk HO_5.out) hb); have n1_ := Aside0.mk (below_step zb hb); clear HO_5; clear HB; have HO_5 := n0_; have HB := n1_; clear n0_ n1_; (try clear hb); (try clear hb2); (try clear hk); (try clear hi)) | (go_at_call 14; (with_reducible refine (dactylref44_Fold.calls k3 t360 t361 _ A25.out).mono ?_); rintro e w34 ⟨rfl, hb⟩; have n0_ := Aside0.mk (Kd.R_below (zk HO_5.out) hb); have n1_ := Aside0.mk (below_step zb hb); clear HO_5; clear HB; have HO_5 := n0_; have HB := n1_; clear n0_ n1_; (try clear hb); (try clear hb2); (try clear hk); (try clear hi)))
               go_roundg k3
               case measure => have := HJ2.out; have := HK2.out; have := HK3.out; omega
               case rel => exact ⟨(x7_3), (wrap64 (x8_3 - 1)), (by first | rfl | (simp; done) | (simp [*]; done)), (by first | rfl | (simp; done) | (simp [*]; done)), H', ⟨by have := HJ2.out; have := HK2.out; have := HK3.out; omega⟩, ⟨by (with_reducible repeat (first | apply Kd.R_alloc | apply Kd.R_drewN | apply Kd.R_drew)); exact HO_5.out⟩, ⟨by repeat (first | (with_reducible first | exact HB.out | apply below_alloc | apply pw_below_drewN | apply below_drew1) | exact HB.out)⟩⟩
           ·rw [if_neg c17] at H
            exact absurd H (by simp)
          ·rw [if_neg c16] at H
           exact absurd H (by simp)
         ·rw [if_neg c15] at H
          have c15b0 : decide (0 ≤ x8_3) = false := decide_eq_false c15
          clear c15
          replace H := Option.bind_eq_some_iff.mp H
          obtain ⟨t362, A350, H⟩ := H
          replace H : ((dactylref44_Has.f k3 a0 2).bind fun t363 => ((dactylref44_Has.f k3 a0 3).bind fun t364 => ((dactyllaw44_awake.f k3).bind fun t365 => (if t365 = true then ((spoof_Scripts.f k3 a0).bind fun t366 => ((dactylref01_Ints.f k3 t366 x5_2).bind fun t369 => (if t369 = true then ((spoof_Mixed.f k3 a0).bind fun t370 => (if t362 = true then (if t363 = true then (if (t370 == true) = true then ((spoof_Find.f k3 a0 l1).bind fun t371 => (some (t371 == x7_3))) else (some false)) else (if t364 = true then (if (t370 == true) = true then ((spoof_Find.f k3 a0 l1).bind fun t372 => (some (t372 == x7_3))) else (some false)) else (if (t370 == false) = true then ((spoof_Find.f k3 a0 l1).bind fun t373 => (some (t373 == x7_3))) else (some false)))) else (if t363 = true then (if (t370 == t364) = true then ((spoof_Find.f k3 a0 l1).bind fun t374 => (some (t374 == x7_3))) else (some false)) else (if (t370 == false) = true then ((spoof_Find.f k3 a0 l1).bind fun t375 => (some (t375 == x7_3))) else (some false))))) else (some false)))) else (some false))))) = some r := H
          have A35 := Aside0.mk A350
          clear A350
          replace H := Option.bind_eq_some_iff.mp H
          obtain ⟨t363, A360, H⟩ := H
          replace H : ((dactylref44_Has.f k3 a0 3).bind fun t364 => ((dactyllaw44_awake.f k3).bind fun t365 => (if t365 = true then ((spoof_Scripts.f k3 a0).bind fun t366 => ((dactylref01_Ints.f k3 t366 x5_2).bind fun t369 => (if t369 = true then ((spoof_Mixed.f k3 a0).bind fun t370 => (if t362 = true then (if t363 = true then (if (t370 == true) = true then ((spoof_Find.f k3 a0 l1).bind fun t371 => (some (t371 == x7_3))) else (some false)) else (if t364 = true then (if (t370 == true) = true then ((spoof_Find.f k3 a0 l1).bind fun t372 => (some (t372 == x7_3))) else (some false)) else (if (t370 == false) = true then ((spoof_Find.f k3 a0 l1).bind fun t373 => (some (t373 == x7_3))) else (some false)))) else (if t363 = true then (if (t370 == t364) = true then ((spoof_Find.f k3 a0 l1).bind fun t374 => (some (t374 == x7_3))) else (some false)) else (if (t370 == false) = true then ((spoof_Find.f k3 a0 l1).bind fun t375 => (some (t375 == x7_3))) else (some false))))) else (some false)))) else (some false)))) = some r := H
          have A36 := Aside0.mk A360
          clear A360
          replace H := Option.bind_eq_some_iff.mp H
          obtain ⟨t364, A370, H⟩ := H
          replace H : ((dactyllaw44_awake.f k3).bind fun t365 => (if t365 = true then ((spoof_Scripts.f k3 a0).bind fun t366 => ((dactylref01_Ints.f k3 t366 x5_2).bind fun t369 => (if t369 = true then ((spoof_Mixed.f k3 a0).bind fun t370 => (if t362 = true then (if t363 = true then (if (t370 == true) = true then ((spoof_Find.f k3 a0 l1).bind fun t371 => (some (t371 == x7_3))) else (some false)) else (if t364 = true then (if (t370 == true) = true then ((spoof_Find.f k3 a0 l1).bind fun t372 => (some (t372 == x7_3))) else (some false)) else (if (t370 == false) = true then ((spoof_Find.f k3 a0 l1).bind fun t373 => (some (t373 == x7_3))) else (some false)))) else (if t363 = true then (if (t370 == t364) = true then ((spoof_Find.f k3 a0 l1).bind fun t374 => (some (t374 == x7_3))) else (some false)) else (if (t370 == false) = true then ((spoof_Find.f k3 a0 l1).bind fun t375 => (some (t375 == x7_3))) else (some false))))) else (some false)))) else (some false))) = some r := H
          have A37 := Aside0.mk A370
          clear A370
          replace H := Option.bind_eq_some_iff.mp H
          obtain ⟨t365, A380, H⟩ := H
          replace H : (if t365 = true then ((spoof_Scripts.f k3 a0).bind fun t366 => ((dactylref01_Ints.f k3 t366 x5_2).bind fun t369 => (if t369 = true then ((spoof_Mixed.f k3 a0).bind fun t370 => (if t362 = true then (if t363 = true then (if (t370 == true) = true then ((spoof_Find.f k3 a0 l1).bind fun t371 => (some (t371 == x7_3))) else (some false)) else (if t364 = true then (if (t370 == true) = true then ((spoof_Find.f k3 a0 l1).bind fun t372 => (some (t372 == x7_3))) else (some false)) else (if (t370 == false) = true then ((spoof_Find.f k3 a0 l1).bind fun t373 => (some (t373 == x7_3))) else (some false)))) else (if t363 = true then (if (t370 == t364) = true then ((spoof_Find.f k3 a0 l1).bind fun t374 => (some (t374 == x7_3))) else (some false)) else (if (t370 == false) = true then ((spoof_Find.f k3 a0 l1).bind fun t375 => (some (t375 == x7_3))) else (some false))))) else (some false)))) else (some false)) = some r := H
          have A38 := Aside0.mk A380
          clear A380
          by_cases c39 : t365 = true
          ·subst c39
           have H1 : ((spoof_Scripts.f k3 a0).bind fun t366 => ((dactylref01_Ints.f k3 t366 x5_2).bind fun t369 => (if t369 = true then ((spoof_Mixed.f k3 a0).bind fun t370 => (if t362 = true then (if t363 = true then (if (t370 == true) = true then ((spoof_Find.f k3 a0 l1).bind fun t371 => (some (t371 == x7_3))) else (some false)) else (if t364 = true then (if (t370 == true) = true then ((spoof_Find.f k3 a0 l1).bind fun t372 => (some (t372 == x7_3))) else (some false)) else (if (t370 == false) = true then ((spoof_Find.f k3 a0 l1).bind fun t373 => (some (t373 == x7_3))) else (some false)))) else (if t363 = true then (if (t370 == t364) = true then ((spoof_Find.f k3 a0 l1).bind fun t374 => (some (t374 == x7_3))) else (some false)) else (if (t370 == false) = true then ((spoof_Find.f k3 a0 l1).bind fun t375 => (some (t375 == x7_3))) else (some false))))) else (some false)))) = some r := by rw [if_pos rfl] at H; exact H
           clear H
           have H := H1
           clear H1
           replace H := Option.bind_eq_some_iff.mp H
           obtain ⟨t366, A400, H⟩ := H
           replace H : ((dactylref01_Ints.f k3 t366 x5_2).bind fun t369 => (if t369 = true then ((spoof_Mixed.f k3 a0).bind fun t370 => (if t362 = true then (if t363 = true then (if (t370 == true) = true then ((spoof_Find.f k3 a0 l1).bind fun t371 => (some (t371 == x7_3))) else (some false)) else (if t364 = true then (if (t370 == true) = true then ((spoof_Find.f k3 a0 l1).bind fun t372 => (some (t372 == x7_3))) else (some false)) else (if (t370 == false) = true then ((spoof_Find.f k3 a0 l1).bind fun t373 => (some (t373 == x7_3))) else (some false)))) else (if t363 = true then (if (t370 == t364) = true then ((spoof_Find.f k3 a0 l1).bind fun t374 => (some (t374 == x7_3))) else (some false)) else (if (t370 == false) = true then ((spoof_Find.f k3 a0 l1).bind fun t375 => (some (t375 == x7_3))) else (some false))))) else (some false))) = some r := H
           have A40 := Aside0.mk A400
           clear A400
           replace H := Option.bind_eq_some_iff.mp H
           obtain ⟨t369, A410, H⟩ := H
           replace H : (if t369 = true then ((spoof_Mixed.f k3 a0).bind fun t370 => (if t362 = true then (if t363 = true then (if (t370 == true) = true then ((spoof_Find.f k3 a0 l1).bind fun t371 => (some (t371 == x7_3))) else (some false)) else (if t364 = true then (if (t370 == true) = true then ((spoof_Find.f k3 a0 l1).bind fun t372 => (some (t372 == x7_3))) else (some false)) else (if (t370 == false) = true then ((spoof_Find.f k3 a0 l1).bind fun t373 => (some (t373 == x7_3))) else (some false)))) else (if t363 = true then (if (t370 == t364) = true then ((spoof_Find.f k3 a0 l1).bind fun t374 => (some (t374 == x7_3))) else (some false)) else (if (t370 == false) = true then ((spoof_Find.f k3 a0 l1).bind fun t375 => (some (t375 == x7_3))) else (some false))))) else (some false)) = some r := H
           have A41 := Aside0.mk A410
           clear A410
           by_cases c42 : t369 = true
           ·subst c42
            have H1 : ((spoof_Mixed.f k3 a0).bind fun t370 => (if t362 = true then (if t363 = true then (if (t370 == true) = true then ((spoof_Find.f k3 a0 l1).bind fun t371 => (some (t371 == x7_3))) else (some false)) else (if t364 = true then (if (t370 == true) = true then ((spoof_Find.f k3 a0 l1).bind fun t372 => (some (t372 == x7_3))) else (some false)) else (if (t370 == false) = true then ((spoof_Find.f k3 a0 l1).bind fun t373 => (some (t373 == x7_3))) else (some false)))) else (if t363 = true then (if (t370 == t364) = true then ((spoof_Find.f k3 a0 l1).bind fun t374 => (some (t374 == x7_3))) else (some false)) else (if (t370 == false) = true then ((spoof_Find.f k3 a0 l1).bind fun t375 => (some (t375 == x7_3))) else (some false))))) = some r := by rw [if_pos rfl] at H; exact H
            clear H
            have H := H1
            clear H1
            replace H := Option.bind_eq_some_iff.mp H
            obtain ⟨t370, A430, H⟩ := H
            replace H : (if t362 = true then (if t363 = true then (if (t370 == true) = true then ((spoof_Find.f k3 a0 l1).bind fun t371 => (some (t371 == x7_3))) else (some false)) else (if t364 = true then (if (t370 == true) = true then ((spoof_Find.f k3 a0 l1).bind fun t372 => (some (t372 == x7_3))) else (some false)) else (if (t370 == false) = true then ((spoof_Find.f k3 a0 l1).bind fun t373 => (some (t373 == x7_3))) else (some false)))) else (if t363 = true then (if (t370 == t364) = true then ((spoof_Find.f k3 a0 l1).bind fun t374 => (some (t374 == x7_3))) else (some false)) else (if (t370 == false) = true then ((spoof_Find.f k3 a0 l1).bind fun t375 => (some (t375 == x7_3))) else (some false)))) = some r := H
            have A43 := Aside0.mk A430
            clear A430
            by_cases c44 : t362 = true
            ·subst c44
             have H1 : (if t363 = true then (if (t370 == true) = true then ((spoof_Find.f k3 a0 l1).bind fun t371 => (some (t371 == x7_3))) else (some false)) else (if t364 = true then (if (t370 == true) = true then ((spoof_Find.f k3 a0 l1).bind fun t372 => (some (t372 == x7_3))) else (some false)) else (if (t370 == false) = true then ((spoof_Find.f k3 a0 l1).bind fun t373 => (some (t373 == x7_3))) else (some false)))) = some r := by rw [if_pos rfl] at H; exact H
             clear H
             have H := H1
             clear H1
             by_cases c45 : t363 = true
             ·subst c45
              have H1 : (if (t370 == true) = true then ((spoof_Find.f k3 a0 l1).bind fun t371 => (some (t371 == x7_3))) else (some false)) = some r := by rw [if_pos rfl] at H; exact H
              clear H
              have H := H1
              clear H1
              by_cases c46 : (t370 == true) = true
              ·rw [if_pos c46] at H
               have c46b0 : (t370 == true) = true := c46
               (try (have c46b1 : decide (t370 = true) = true := by simpa using c46))
               (try (have c46b2 : (t370 == true) = true := by simpa using c46))
               clear c46
               replace H := Option.bind_eq_some_iff.mp H
               obtain ⟨t371, A470, H⟩ := H
               replace H : (some (t371 == x7_3)) = some r := H
               have A47 := Aside0.mk A470
               clear A470
               obtain rfl := Option.some.inj H
               go_wp2_with (first | ((with_reducible refine gate_callee (f := 16) rfl ?_); refine goesL_ (some 66) rfl rfl Try.func16 (by kernel_rfl) rfl #[.string a0, .int .i64 1] rfl zl ?_; (with_reducible refine (dactylref44_Has.calls k3 a0 1 true _ A35.out).mono ?_); rintro e w48 ⟨rfl, hb⟩; refine ⟨_, rfl, ?_⟩; have n0_ := Aside0.mk (Kd.R_below (zk HO_5.out) hb); have n1_ := Aside0.mk (below_step zb hb); clear HO_5; clear HB; have HO_5 := n0_; have HB := n1_; clear n0_ n1_; (try clear hb); (try clear hb2); (try clear hk); (try clear hi)) | ((with_reducible refine gate_callee (f := 16) rfl ?_); refine goesL_ (some 68) rfl rfl Try.func16 (by kernel_rfl) rfl #[.string a0, .int .i64 2] rfl zl ?_; (with_reducible refine (dactylref44_Has.calls k3 a0 2 true _ A36.out).mono ?_); rintro e w49 ⟨rfl, hb⟩; refine ⟨_, rfl, ?_⟩; have n0_ := Aside0.mk (Kd.R_below (zk HO_5.out) hb); have n1_ := Aside0.mk (below_step zb hb); clear HO_5; clear HB; have HO_5 := n0_; have HB := n1_; clear n0_ n1_; (try clear hb); (try clear hb2); (try clear hk); (try clear hi)) | ((with_reducible refine gate_callee (f := 16) rfl ?_); refine goesL_ (some 70) rfl rfl Try.func16 (by kernel_rfl) rfl #[.string a0, .int .i64 3] rfl zl ?_; (with_reducible refine (dactylref44_Has.calls k3 a0 3 t364 _ A37.out).mono ?_); rintro e w50 ⟨rfl, hb⟩; refine ⟨_, rfl, ?_⟩; have n0_ := Aside0.mk (Kd.R_below (zk HO_5.out) hb); have n1_ := Aside0.mk (below_step zb hb); clear HO_5; clear HB; have HO_5 := n0_; have HB := n1_; clear n0_ n1_; (try clear hb); (try clear hb2); (try clear hk); (try clear hi)) | ((with_reducible refine gate_callee (f := 6) rfl ?_); refine goesL_ (some 71) rfl rfl Try.func6 (by kernel_rfl) rfl #[] rfl zl ?_; (with_reducible refine (dactyllaw44_awake.calls k3  true _ A38.out).mono ?_); rintro e w51 ⟨rfl, hb⟩; refine ⟨_, rfl, ?_⟩; have n0_ := Aside0.mk (Kd.R_below (zk HO_5.out) hb); have n1_ := Aside0.mk (below_step zb hb); clear HO_5; clear HB; have HO_5 := n0_; have HB := n1_; clear n0_ n1_; (try clear hb); (try clear hb2); (try clear hk); (try clear hi)) | (go_at_call 18; (with_reducible refine (spoof_Scripts.calls k3 a0 t366 _ A40.out).mono ?_); rintro e w52 ⟨v367, rfl, ho0, hb⟩; have n0_ := Aside0.mk (Kd.R_elder' (zk HO_5.out) (Kd.R_base ho0) hb); have n1_ := Aside0.mk (Kd.R_lower (Kd.R_new' ho0 (Kd.R_lt (zk HO_5.out))) (below_size zb)); have n2_ := Aside0.mk (below_step zb hb); clear HO_5; clear HB; have HO_5 := n0_; have HO368 := n1_; have HB := n2_; clear n0_ n1_ n2_; (try clear hb); (try clear hb2); (try clear hk); (try clear hi); (try clear ho0); obtain ⟨Ao53, co53, eo53⟩ := Kd.R_slice HO368.out; subst eo53; obtain ⟨Ao54, co54, eo54⟩ := Kd.R_slice HO_5.out; subst eo54) | (go_at_call 17; (with_reducible refine (dactylref01_Ints.calls k3 _ _ t366 _ _ x5_2 true _ ?side1 ?side2 ?side3 ?side4 A41.out).mono ?_); (case side1 => repeat (first | exact (Kd.R_reads' HO368.out).2.2 | (with_reducible refine Kd.C_alloc ?_ _) | (with_reducible refine Kd.C_drewN ?_ _) | (with_reducible refine Kd.C_drew ?_))); (case side2 => exact (Kd.R_reads' HO368.out).2.1); (case side3 => repeat (first | exact (Kd.R_reads' HO_5.out).2.2 | (with_reducible refine Kd.C_alloc ?_ _) | (with_reducible refine Kd.C_drewN ?_ _) | (with_reducible refine Kd.C_drew ?_))); (case side4 => exact (Kd.R_reads' HO_5.out).2.1); rintro e w' ⟨rfl, ⟨nd, rfl⟩⟩) | (go_at_call 19; (with_reducible refine (spoof_Mixed.calls k3 a0 t370 _ A43.out).mono ?_); rintro e w55 ⟨rfl, hb⟩; have n0_ := Aside0.mk (Kd.R_below (zk HO_5.out) hb); have n1_ := Aside0.mk (Kd.R_below (zk HO368.out) hb); have n2_ := Aside0.mk (below_step zb hb); clear HO_5; clear HO368; clear HB; have HO_5 := n0_; have HO368 := n1_; have HB := n2_; clear n0_ n1_ n2_; (try clear hb); (try clear hb2); (try clear hk); (try clear hi)) | (go_at_call 20; (with_reducible refine (spoof_Find.calls k3 a0 _ _ l1 t371 _ ?side1 ?side2 A47.out).mono ?_); (case side1 => repeat (first | exact (Kd.C_below HR1.out HB.out) | (with_reducible refine Kd.C_alloc ?_ _) | (with_reducible refine Kd.C_drewN ?_ _) | (with_reducible refine Kd.C_drew ?_))); (case side2 => exact HC1.out); rintro e w56 ⟨rfl, hb⟩; have n0_ := Aside0.mk (Kd.R_below (zk HO_5.out) hb); have n1_ := Aside0.mk (Kd.R_below (zk HO368.out) hb); have n2_ := Aside0.mk (below_step zb hb); clear HO_5; clear HO368; clear HB; have HO_5 := n0_; have HO368 := n1_; have HB := n2_; clear n0_ n1_ n2_; (try clear hb); (try clear hb2); (try clear hk); (try clear hi)))
               go_ret
               exact ⟨zr, zb⟩
              ·rw [if_neg c46] at H
               have c46b0 : (t370 == true) = false := by simpa using c46
               (try (have c46b1 : decide (t370 = true) = false := by simpa using c46))
               (try (have c46b2 : (t370 == true) = false := by simpa using c46))
               (try (have c46b3 : ¬ (t370 = true) := by simpa using c46))
               clear c46
               obtain rfl := Option.some.inj H
               go_wp2_with (first | ((with_reducible refine gate_callee (f := 16) rfl ?_); refine goesL_ (some 66) rfl rfl Try.func16 (by kernel_rfl) rfl #[.string a0, .int .i64 1] rfl zl ?_; (with_reducible refine (dactylref44_Has.calls k3 a0 1 true _ A35.out).mono ?_); rintro e w57 ⟨rfl, hb⟩; refine ⟨_, rfl, ?_⟩; have n0_ := Aside0.mk (Kd.R_below (zk HO_5.out) hb); have n1_ := Aside0.mk (below_step zb hb); clear HO_5; clear HB; have HO_5 := n0_; have HB := n1_; clear n0_ n1_; (try clear hb); (try clear hb2); (try clear hk); (try clear hi)) | ((with_reducible refine gate_callee (f := 16) rfl ?_); refine goesL_ (some 68) rfl rfl Try.func16 (by kernel_rfl) rfl #[.string a0, .int .i64 2] rfl zl ?_; (with_reducible refine (dactylref44_Has.calls k3 a0 2 true _ A36.out).mono ?_); rintro e w58 ⟨rfl, hb⟩; refine ⟨_, rfl, ?_⟩; have n0_ := Aside0.mk (Kd.R_below (zk HO_5.out) hb); have n1_ := Aside0.mk (below_step zb hb); clear HO_5; clear HB; have HO_5 := n0_; have HB := n1_; clear n0_ n1_; (try clear hb); (try clear hb2); (try clear hk); (try clear hi)) | ((with_reducible refine gate_callee (f := 16) rfl ?_); refine goesL_ (some 70) rfl rfl Try.func16 (by kernel_rfl) rfl #[.string a0, .int .i64 3] rfl zl ?_; (with_reducible refine (dactylref44_Has.calls k3 a0 3 t364 _ A37.out).mono ?_); rintro e w59 ⟨rfl, hb⟩; refine ⟨_, rfl, ?_⟩; have n0_ := Aside0.mk (Kd.R_below (zk HO_5.out) hb); have n1_ := Aside0.mk (below_step zb hb); clear HO_5; clear HB; have HO_5 := n0_; have HB := n1_; clear n0_ n1_; (try clear hb); (try clear hb2); (try clear hk); (try clear hi)) | ((with_reducible refine gate_callee (f := 6) rfl ?_); refine goesL_ (some 71) rfl rfl Try.func6 (by kernel_rfl) rfl #[] rfl zl ?_; (with_reducible refine (dactyllaw44_awake.calls k3  true _ A38.out).mono ?_); rintro e w60 ⟨rfl, hb⟩; refine ⟨_, rfl, ?_⟩; have n0_ := Aside0.mk (Kd.R_below (zk HO_5.out) hb); have n1_ := Aside0.mk (below_step zb hb); clear HO_5; clear HB; have HO_5 := n0_; have HB := n1_; clear n0_ n1_; (try clear hb); (try clear hb2); (try clear hk); (try clear hi)) | (go_at_call 18; (with_reducible refine (spoof_Scripts.calls k3 a0 t366 _ A40.out).mono ?_); rintro e w61 ⟨v367, rfl, ho0, hb⟩; have n0_ := Aside0.mk (Kd.R_elder' (zk HO_5.out) (Kd.R_base ho0) hb); have n1_ := Aside0.mk (Kd.R_lower (Kd.R_new' ho0 (Kd.R_lt (zk HO_5.out))) (below_size zb)); have n2_ := Aside0.mk (below_step zb hb); clear HO_5; clear HB; have HO_5 := n0_; have HO368 := n1_; have HB := n2_; clear n0_ n1_ n2_; (try clear hb); (try clear hb2); (try clear hk); (try clear hi); (try clear ho0); obtain ⟨Ao62, co62, eo62⟩ := Kd.R_slice HO368.out; subst eo62; obtain ⟨Ao63, co63, eo63⟩ := Kd.R_slice HO_5.out; subst eo63) | (go_at_call 17; (with_reducible refine (dactylref01_Ints.calls k3 _ _ t366 _ _ x5_2 true _ ?side1 ?side2 ?side3 ?side4 A41.out).mono ?_); (case side1 => repeat (first | exact (Kd.R_reads' HO368.out).2.2 | (with_reducible refine Kd.C_alloc ?_ _) | (with_reducible refine Kd.C_drewN ?_ _) | (with_reducible refine Kd.C_drew ?_))); (case side2 => exact (Kd.R_reads' HO368.out).2.1); (case side3 => repeat (first | exact (Kd.R_reads' HO_5.out).2.2 | (with_reducible refine Kd.C_alloc ?_ _) | (with_reducible refine Kd.C_drewN ?_ _) | (with_reducible refine Kd.C_drew ?_))); (case side4 => exact (Kd.R_reads' HO_5.out).2.1); rintro e w' ⟨rfl, ⟨nd, rfl⟩⟩) | (go_at_call 19; (with_reducible refine (spoof_Mixed.calls k3 a0 t370 _ A43.out).mono ?_); rintro e w64 ⟨rfl, hb⟩; have n0_ := Aside0.mk (Kd.R_below (zk HO_5.out) hb); have n1_ := Aside0.mk (Kd.R_below (zk HO368.out) hb); have n2_ := Aside0.mk (below_step zb hb); clear HO_5; clear HO368; clear HB; have HO_5 := n0_; have HO368 := n1_; have HB := n2_; clear n0_ n1_ n2_; (try clear hb); (try clear hb2); (try clear hk); (try clear hi)))
               go_ret
               exact ⟨zr, zb⟩
             ·replace c45 := Bool.eq_false_iff.mpr c45
              subst c45
              have H1 : (if t364 = true then (if (t370 == true) = true then ((spoof_Find.f k3 a0 l1).bind fun t372 => (some (t372 == x7_3))) else (some false)) else (if (t370 == false) = true then ((spoof_Find.f k3 a0 l1).bind fun t373 => (some (t373 == x7_3))) else (some false))) = some r := by rw [if_neg (show ¬ (false = true) by decide)] at H; exact H
              clear H
              have H := H1
              clear H1
              by_cases c65 : t364 = true
              ·subst c65
               have H1 : (if (t370 == true) = true then ((spoof_Find.f k3 a0 l1).bind fun t372 => (some (t372 == x7_3))) else (some false)) = some r := by rw [if_pos rfl] at H; exact H
               clear H
               have H := H1
               clear H1
               by_cases c66 : (t370 == true) = true
               ·rw [if_pos c66] at H
                have c66b0 : (t370 == true) = true := c66
                (try (have c66b1 : decide (t370 = true) = true := by simpa using c66))
                (try (have c66b2 : (t370 == true) = true := by simpa using c66))
                clear c66
                replace H := Option.bind_eq_some_iff.mp H
                obtain ⟨t372, A670, H⟩ := H
                replace H : (some (t372 == x7_3)) = some r := H
                have A67 := Aside0.mk A670
                clear A670
                obtain rfl := Option.some.inj H
                go_wp2_with (first | ((with_reducible refine gate_callee (f := 16) rfl ?_); refine goesL_ (some 66) rfl rfl Try.func16 (by kernel_rfl) rfl #[.string a0, .int .i64 1] rfl zl ?_; (with_reducible refine (dactylref44_Has.calls k3 a0 1 true _ A35.out).mono ?_); rintro e w68 ⟨rfl, hb⟩; refine ⟨_, rfl, ?_⟩; have n0_ := Aside0.mk (Kd.R_below (zk HO_5.out) hb); have n1_ := Aside0.mk (below_step zb hb); clear HO_5; clear HB; have HO_5 := n0_; have HB := n1_; clear n0_ n1_; (try clear hb); (try clear hb2); (try clear hk); (try clear hi)) | ((with_reducible refine gate_callee (f := 16) rfl ?_); refine goesL_ (some 68) rfl rfl Try.func16 (by kernel_rfl) rfl #[.string a0, .int .i64 2] rfl zl ?_; (with_reducible refine (dactylref44_Has.calls k3 a0 2 false _ A36.out).mono ?_); rintro e w69 ⟨rfl, hb⟩; refine ⟨_, rfl, ?_⟩; have n0_ := Aside0.mk (Kd.R_below (zk HO_5.out) hb); have n1_ := Aside0.mk (below_step zb hb); clear HO_5; clear HB; have HO_5 := n0_; have HB := n1_; clear n0_ n1_; (try clear hb); (try clear hb2); (try clear hk); (try clear hi)) | ((with_reducible refine gate_callee (f := 16) rfl ?_); refine goesL_ (some 70) rfl rfl Try.func16 (by kernel_rfl) rfl #[.string a0, .int .i64 3] rfl zl ?_; (with_reducible refine (dactylref44_Has.calls k3 a0 3 true _ A37.out).mono ?_); rintro e w70 ⟨rfl, hb⟩; refine ⟨_, rfl, ?_⟩; have n0_ := Aside0.mk (Kd.R_below (zk HO_5.out) hb); have n1_ := Aside0.mk (below_step zb hb); clear HO_5; clear HB; have HO_5 := n0_; have HB := n1_; clear n0_ n1_; (try clear hb); (try clear hb2); (try clear hk); (try clear hi)) | ((with_reducible refine gate_callee (f := 6) rfl ?_); refine goesL_ (some 71) rfl rfl Try.func6 (by kernel_rfl) rfl #[] rfl zl ?_; (with_reducible refine (dactyllaw44_awake.calls k3  true _ A38.out).mono ?_); rintro e w71 ⟨rfl, hb⟩; refine ⟨_, rfl, ?_⟩; have n0_ := Aside0.mk (Kd.R_below (zk HO_5.out) hb); have n1_ := Aside0.mk (below_step zb hb); clear HO_5; clear HB; have HO_5 := n0_; have HB := n1_; clear n0_ n1_; (try clear hb); (try clear hb2); (try clear hk); (try clear hi)) | (go_at_call 18; (with_reducible refine (spoof_Scripts.calls k3 a0 t366 _ A40.out).mono ?_); rintro e w72 ⟨v367, rfl, ho0, hb⟩; have n0_ := Aside0.mk (Kd.R_elder' (zk HO_5.out) (Kd.R_base ho0) hb); have n1_ := Aside0.mk (Kd.R_lower (Kd.R_new' ho0 (Kd.R_lt (zk HO_5.out))) (below_size zb)); have n2_ := Aside0.mk (below_step zb hb); clear HO_5; clear HB; have HO_5 := n0_; have HO368 := n1_; have HB := n2_; clear n0_ n1_ n2_; (try clear hb); (try clear hb2); (try clear hk); (try clear hi); (try clear ho0); obtain ⟨Ao73, co73, eo73⟩ := Kd.R_slice HO368.out; subst eo73; obtain ⟨Ao74, co74, eo74⟩ := Kd.R_slice HO_5.out; subst eo74) | (go_at_call 17; (with_reducible refine (dactylref01_Ints.calls k3 _ _ t366 _ _ x5_2 true _ ?side1 ?side2 ?side3 ?side4 A41.out).mono ?_); (case side1 => repeat (first | exact (Kd.R_reads' HO368.out).2.2 | (with_reducible refine Kd.C_alloc ?_ _) | (with_reducible refine Kd.C_drewN ?_ _) | (with_reducible refine Kd.C_drew ?_))); (case side2 => exact (Kd.R_reads' HO368.out).2.1); (case side3 => repeat (first | exact (Kd.R_reads' HO_5.out).2.2 | (with_reducible refine Kd.C_alloc ?_ _) | (with_reducible refine Kd.C_drewN ?_ _) | (with_reducible refine Kd.C_drew ?_))); (case side4 => exact (Kd.R_reads' HO_5.out).2.1); rintro e w' ⟨rfl, ⟨nd, rfl⟩⟩) | (go_at_call 19; (with_reducible refine (spoof_Mixed.calls k3 a0 t370 _ A43.out).mono ?_); rintro e w75 ⟨rfl, hb⟩; have n0_ := Aside0.mk (Kd.R_below (zk HO_5.out) hb); have n1_ := Aside0.mk (Kd.R_below (zk HO368.out) hb); have n2_ := Aside0.mk (below_step zb hb); clear HO_5; clear HO368; clear HB; have HO_5 := n0_; have HO368 := n1_; have HB := n2_; clear n0_ n1_ n2_; (try clear hb); (try clear hb2); (try clear hk); (try clear hi)) | (go_at_call 20; (with_reducible refine (spoof_Find.calls k3 a0 _ _ l1 t372 _ ?side1 ?side2 A67.out).mono ?_); (case side1 => repeat (first | exact (Kd.C_below HR1.out HB.out) | (with_reducible refine Kd.C_alloc ?_ _) | (with_reducible refine Kd.C_drewN ?_ _) | (with_reducible refine Kd.C_drew ?_))); (case side2 => exact HC1.out); rintro e w76 ⟨rfl, hb⟩; have n0_ := Aside0.mk (Kd.R_below (zk HO_5.out) hb); have n1_ := Aside0.mk (Kd.R_below (zk HO368.out) hb); have n2_ := Aside0.mk (below_step zb hb); clear HO_5; clear HO368; clear HB; have HO_5 := n0_; have HO368 := n1_; have HB := n2_; clear n0_ n1_ n2_; (try clear hb); (try clear hb2); (try clear hk); (try clear hi)))
                go_ret
                exact ⟨zr, zb⟩
               ·rw [if_neg c66] at H
                have c66b0 : (t370 == true) = false := by simpa using c66
                (try (have c66b1 : decide (t370 = true) = false := by simpa using c66))
                (try (have c66b2 : (t370 == true) = false := by simpa using c66))
                (try (have c66b3 : ¬ (t370 = true) := by simpa using c66))
                clear c66
                obtain rfl := Option.some.inj H
                go_wp2_with (first | ((with_reducible refine gate_callee (f := 16) rfl ?_); refine goesL_ (some 66) rfl rfl Try.func16 (by kernel_rfl) rfl #[.string a0, .int .i64 1] rfl zl ?_; (with_reducible refine (dactylref44_Has.calls k3 a0 1 true _ A35.out).mono ?_); rintro e w77 ⟨rfl, hb⟩; refine ⟨_, rfl, ?_⟩; have n0_ := Aside0.mk (Kd.R_below (zk HO_5.out) hb); have n1_ := Aside0.mk (below_step zb hb); clear HO_5; clear HB; have HO_5 := n0_; have HB := n1_; clear n0_ n1_; (try clear hb); (try clear hb2); (try clear hk); (try clear hi)) | ((with_reducible refine gate_callee (f := 16) rfl ?_); refine goesL_ (some 68) rfl rfl Try.func16 (by kernel_rfl) rfl #[.string a0, .int .i64 2] rfl zl ?_; (with_reducible refine (dactylref44_Has.calls k3 a0 2 false _ A36.out).mono ?_); rintro e w78 ⟨rfl, hb⟩; refine ⟨_, rfl, ?_⟩; have n0_ := Aside0.mk (Kd.R_below (zk HO_5.out) hb); have n1_ := Aside0.mk (below_step zb hb); clear HO_5; clear HB; have HO_5 := n0_; have HB := n1_; clear n0_ n1_; (try clear hb); (try clear hb2); (try clear hk); (try clear hi)) | ((with_reducible refine gate_callee (f := 16) rfl ?_); refine goesL_ (some 70) rfl rfl Try.func16 (by kernel_rfl) rfl #[.string a0, .int .i64 3] rfl zl ?_; (with_reducible refine (dactylref44_Has.calls k3 a0 3 true _ A37.out).mono ?_); rintro e w79 ⟨rfl, hb⟩; refine ⟨_, rfl, ?_⟩; have n0_ := Aside0.mk (Kd.R_below (zk HO_5.out) hb); have n1_ := Aside0.mk (below_step zb hb); clear HO_5; clear HB; have HO_5 := n0_; have HB := n1_; clear n0_ n1_; (try clear hb); (try clear hb2); (try clear hk); (try clear hi)) | ((with_reducible refine gate_callee (f := 6) rfl ?_); refine goesL_ (some 71) rfl rfl Try.func6 (by kernel_rfl) rfl #[] rfl zl ?_; (with_reducible refine (dactyllaw44_awake.calls k3  true _ A38.out).mono ?_); rintro e w80 ⟨rfl, hb⟩; refine ⟨_, rfl, ?_⟩; have n0_ := Aside0.mk (Kd.R_below (zk HO_5.out) hb); have n1_ := Aside0.mk (below_step zb hb); clear HO_5; clear HB; have HO_5 := n0_; have HB := n1_; clear n0_ n1_; (try clear hb); (try clear hb2); (try clear hk); (try clear hi)) | (go_at_call 18; (with_reducible refine (spoof_Scripts.calls k3 a0 t366 _ A40.out).mono ?_); rintro e w81 ⟨v367, rfl, ho0, hb⟩; have n0_ := Aside0.mk (Kd.R_elder' (zk HO_5.out) (Kd.R_base ho0) hb); have n1_ := Aside0.mk (Kd.R_lower (Kd.R_new' ho0 (Kd.R_lt (zk HO_5.out))) (below_size zb)); have n2_ := Aside0.mk (below_step zb hb); clear HO_5; clear HB; have HO_5 := n0_; have HO368 := n1_; have HB := n2_; clear n0_ n1_ n2_; (try clear hb); (try clear hb2); (try clear hk); (try clear hi); (try clear ho0); obtain ⟨Ao82, co82, eo82⟩ := Kd.R_slice HO368.out; subst eo82; obtain ⟨Ao83, co83, eo83⟩ := Kd.R_slice HO_5.out; subst eo83) | (go_at_call 17; (with_reducible refine (dactylref01_Ints.calls k3 _ _ t366 _ _ x5_2 true _ ?side1 ?side2 ?side3 ?side4 A41.out).mono ?_); (case side1 => repeat (first | exact (Kd.R_reads' HO368.out).2.2 | (with_reducible refine Kd.C_alloc ?_ _) | (with_reducible refine Kd.C_drewN ?_ _) | (with_reducible refine Kd.C_drew ?_))); (case side2 => exact (Kd.R_reads' HO368.out).2.1); (case side3 => repeat (first | exact (Kd.R_reads' HO_5.out).2.2 | (with_reducible refine Kd.C_alloc ?_ _) | (with_reducible refine Kd.C_drewN ?_ _) | (with_reducible refine Kd.C_drew ?_))); (case side4 => exact (Kd.R_reads' HO_5.out).2.1); rintro e w' ⟨rfl, ⟨nd, rfl⟩⟩) | (go_at_call 19; (with_reducible refine (spoof_Mixed.calls k3 a0 t370 _ A43.out).mono ?_); rintro e w84 ⟨rfl, hb⟩; have n0_ := Aside0.mk (Kd.R_below (zk HO_5.out) hb); have n1_ := Aside0.mk (Kd.R_below (zk HO368.out) hb); have n2_ := Aside0.mk (below_step zb hb); clear HO_5; clear HO368; clear HB; have HO_5 := n0_; have HO368 := n1_; have HB := n2_; clear n0_ n1_ n2_; (try clear hb); (try clear hb2); (try clear hk); (try clear hi)))
                go_ret
                exact ⟨zr, zb⟩
              ·replace c65 := Bool.eq_false_iff.mpr c65
               subst c65
               have H1 : (if (t370 == false) = true then ((spoof_Find.f k3 a0 l1).bind fun t373 => (some (t373 == x7_3))) else (some false)) = some r := by rw [if_neg (show ¬ (false = true) by decide)] at H; exact H
               clear H
               have H := H1
               clear H1
               by_cases c85 : (t370 == false) = true
               ·rw [if_pos c85] at H
                have c85b0 : (t370 == false) = true := c85
                (try (have c85b1 : decide (t370 = false) = true := by simpa using c85))
                (try (have c85b2 : (t370 == false) = true := by simpa using c85))
                clear c85
                replace H := Option.bind_eq_some_iff.mp H
                obtain ⟨t373, A860, H⟩ := H
                replace H : (some (t373 == x7_3)) = some r := H
                have A86 := Aside0.mk A860
                clear A860
                obtain rfl := Option.some.inj H
                go_wp2_with (first | ((with_reducible refine gate_callee (f := 16) rfl ?_); refine goesL_ (some 66) rfl rfl Try.func16 (by kernel_rfl) rfl #[.string a0, .int .i64 1] rfl zl ?_; (with_reducible refine (dactylref44_Has.calls k3 a0 1 true _ A35.out).mono ?_); rintro e w87 ⟨rfl, hb⟩; refine ⟨_, rfl, ?_⟩; have n0_ := Aside0.mk (Kd.R_below (zk HO_5.out) hb); have n1_ := Aside0.mk (below_step zb hb); clear HO_5; clear HB; have HO_5 := n0_; have HB := n1_; clear n0_ n1_; (try clear hb); (try clear hb2); (try clear hk); (try clear hi)) | ((with_reducible refine gate_callee (f := 16) rfl ?_); refine goesL_ (some 68) rfl rfl Try.func16 (by kernel_rfl) rfl #[.string a0, .int .i64 2] rfl zl ?_; (with_reducible refine (dactylref44_Has.calls k3 a0 2 false _ A36.out).mono ?_); rintro e w88 ⟨rfl, hb⟩; refine ⟨_, rfl, ?_⟩; have n0_ := Aside0.mk (Kd.R_below (zk HO_5.out) hb); have n1_ := Aside0.mk (below_step zb hb); clear HO_5; clear HB; have HO_5 := n0_; have HB := n1_; clear n0_ n1_; (try clear hb); (try clear hb2); (try clear hk); (try clear hi)) | ((with_reducible refine gate_callee (f := 16) rfl ?_); refine goesL_ (some 70) rfl rfl Try.func16 (by kernel_rfl) rfl #[.string a0, .int .i64 3] rfl zl ?_; (with_reducible refine (dactylref44_Has.calls k3 a0 3 false _ A37.out).mono ?_); rintro e w89 ⟨rfl, hb⟩; refine ⟨_, rfl, ?_⟩; have n0_ := Aside0.mk (Kd.R_below (zk HO_5.out) hb); have n1_ := Aside0.mk (below_step zb hb); clear HO_5; clear HB; have HO_5 := n0_; have HB := n1_; clear n0_ n1_; (try clear hb); (try clear hb2); (try clear hk); (try clear hi)) | ((with_reducible refine gate_callee (f := 6) rfl ?_); refine goesL_ (some 71) rfl rfl Try.func6 (by kernel_rfl) rfl #[] rfl zl ?_; (with_reducible refine (dactyllaw44_awake.calls k3  true _ A38.out).mono ?_); rintro e w90 ⟨rfl, hb⟩; refine ⟨_, rfl, ?_⟩; have n0_ := Aside0.mk (Kd.R_below (zk HO_5.out) hb); have n1_ := Aside0.mk (below_step zb hb); clear HO_5; clear HB; have HO_5 := n0_; have HB := n1_; clear n0_ n1_; (try clear hb); (try clear hb2); (try clear hk); (try clear hi)) | (go_at_call 18; (with_reducible refine (spoof_Scripts.calls k3 a0 t366 _ A40.out).mono ?_); rintro e w91 ⟨v367, rfl, ho0, hb⟩; have n0_ := Aside0.mk (Kd.R_elder' (zk HO_5.out) (Kd.R_base ho0) hb); have n1_ := Aside0.mk (Kd.R_lower (Kd.R_new' ho0 (Kd.R_lt (zk HO_5.out))) (below_size zb)); have n2_ := Aside0.mk (below_step zb hb); clear HO_5; clear HB; have HO_5 := n0_; have HO368 := n1_; have HB := n2_; clear n0_ n1_ n2_; (try clear hb); (try clear hb2); (try clear hk); (try clear hi); (try clear ho0); obtain ⟨Ao92, co92, eo92⟩ := Kd.R_slice HO368.out; subst eo92; obtain ⟨Ao93, co93, eo93⟩ := Kd.R_slice HO_5.out; subst eo93) | (go_at_call 17; (with_reducible refine (dactylref01_Ints.calls k3 _ _ t366 _ _ x5_2 true _ ?side1 ?side2 ?side3 ?side4 A41.out).mono ?_); (case side1 => repeat (first | exact (Kd.R_reads' HO368.out).2.2 | (with_reducible refine Kd.C_alloc ?_ _) | (with_reducible refine Kd.C_drewN ?_ _) | (with_reducible refine Kd.C_drew ?_))); (case side2 => exact (Kd.R_reads' HO368.out).2.1); (case side3 => repeat (first | exact (Kd.R_reads' HO_5.out).2.2 | (with_reducible refine Kd.C_alloc ?_ _) | (with_reducible refine Kd.C_drewN ?_ _) | (with_reducible refine Kd.C_drew ?_))); (case side4 => exact (Kd.R_reads' HO_5.out).2.1); rintro e w' ⟨rfl, ⟨nd, rfl⟩⟩) | (go_at_call 19; (with_reducible refine (spoof_Mixed.calls k3 a0 t370 _ A43.out).mono ?_); rintro e w94 ⟨rfl, hb⟩; have n0_ := Aside0.mk (Kd.R_below (zk HO_5.out) hb); have n1_ := Aside0.mk (Kd.R_below (zk HO368.out) hb); have n2_ := Aside0.mk (below_step zb hb); clear HO_5; clear HO368; clear HB; have HO_5 := n0_; have HO368 := n1_; have HB := n2_; clear n0_ n1_ n2_; (try clear hb); (try clear hb2); (try clear hk); (try clear hi)) | (go_at_call 20; (with_reducible refine (spoof_Find.calls k3 a0 _ _ l1 t373 _ ?side1 ?side2 A86.out).mono ?_); (case side1 => repeat (first | exact (Kd.C_below HR1.out HB.out) | (with_reducible refine Kd.C_alloc ?_ _) | (with_reducible refine Kd.C_drewN ?_ _) | (with_reducible refine Kd.C_drew ?_))); (case side2 => exact HC1.out); rintro e w95 ⟨rfl, hb⟩; have n0_ := Aside0.mk (Kd.R_below (zk HO_5.out) hb); have n1_ := Aside0.mk (Kd.R_below (zk HO368.out) hb); have n2_ := Aside0.mk (below_step zb hb); clear HO_5; clear HO368; clear HB; have HO_5 := n0_; have HO368 := n1_; have HB := n2_; clear n0_ n1_ n2_; (try clear hb); (try clear hb2); (try clear hk); (try clear hi)))
                go_ret
                exact ⟨zr, zb⟩
               ·rw [if_neg c85] at H
                have c85b0 : (t370 == false) = false := by simpa using c85
                (try (have c85b1 : decide (t370 = false) = false := by simpa using c85))
                (try (have c85b2 : (t370 == false) = false := by simpa using c85))
                (try (have c85b3 : ¬ (t370 = false) := by simpa using c85))
                clear c85
                obtain rfl := Option.some.inj H
                go_wp2_with (first | ((with_reducible refine gate_callee (f := 16) rfl ?_); refine goesL_ (some 66) rfl rfl Try.func16 (by kernel_rfl) rfl #[.string a0, .int .i64 1] rfl zl ?_; (with_reducible refine (dactylref44_Has.calls k3 a0 1 true _ A35.out).mono ?_); rintro e w96 ⟨rfl, hb⟩; refine ⟨_, rfl, ?_⟩; have n0_ := Aside0.mk (Kd.R_below (zk HO_5.out) hb); have n1_ := Aside0.mk (below_step zb hb); clear HO_5; clear HB; have HO_5 := n0_; have HB := n1_; clear n0_ n1_; (try clear hb); (try clear hb2); (try clear hk); (try clear hi)) | ((with_reducible refine gate_callee (f := 16) rfl ?_); refine goesL_ (some 68) rfl rfl Try.func16 (by kernel_rfl) rfl #[.string a0, .int .i64 2] rfl zl ?_; (with_reducible refine (dactylref44_Has.calls k3 a0 2 false _ A36.out).mono ?_); rintro e w97 ⟨rfl, hb⟩; refine ⟨_, rfl, ?_⟩; have n0_ := Aside0.mk (Kd.R_below (zk HO_5.out) hb); have n1_ := Aside0.mk (below_step zb hb); clear HO_5; clear HB; have HO_5 := n0_; have HB := n1_; clear n0_ n1_; (try clear hb); (try clear hb2); (try clear hk); (try clear hi)) | ((with_reducible refine gate_callee (f := 16) rfl ?_); refine goesL_ (some 70) rfl rfl Try.func16 (by kernel_rfl) rfl #[.string a0, .int .i64 3] rfl zl ?_; (with_reducible refine (dactylref44_Has.calls k3 a0 3 false _ A37.out).mono ?_); rintro e w98 ⟨rfl, hb⟩; refine ⟨_, rfl, ?_⟩; have n0_ := Aside0.mk (Kd.R_below (zk HO_5.out) hb); have n1_ := Aside0.mk (below_step zb hb); clear HO_5; clear HB; have HO_5 := n0_; have HB := n1_; clear n0_ n1_; (try clear hb); (try clear hb2); (try clear hk); (try clear hi)) | ((with_reducible refine gate_callee (f := 6) rfl ?_); refine goesL_ (some 71) rfl rfl Try.func6 (by kernel_rfl) rfl #[] rfl zl ?_; (with_reducible refine (dactyllaw44_awake.calls k3  true _ A38.out).mono ?_); rintro e w99 ⟨rfl, hb⟩; refine ⟨_, rfl, ?_⟩; have n0_ := Aside0.mk (Kd.R_below (zk HO_5.out) hb); have n1_ := Aside0.mk (below_step zb hb); clear HO_5; clear HB; have HO_5 := n0_; have HB := n1_; clear n0_ n1_; (try clear hb); (try clear hb2); (try clear hk); (try clear hi)) | (go_at_call 18; (with_reducible refine (spoof_Scripts.calls k3 a0 t366 _ A40.out).mono ?_); rintro e w100 ⟨v367, rfl, ho0, hb⟩; have n0_ := Aside0.mk (Kd.R_elder' (zk HO_5.out) (Kd.R_base ho0) hb); have n1_ := Aside0.mk (Kd.R_lower (Kd.R_new' ho0 (Kd.R_lt (zk HO_5.out))) (below_size zb)); have n2_ := Aside0.mk (below_step zb hb); clear HO_5; clear HB; have HO_5 := n0_; have HO368 := n1_; have HB := n2_; clear n0_ n1_ n2_; (try clear hb); (try clear hb2); (try clear hk); (try clear hi); (try clear ho0); obtain ⟨Ao101, co101, eo101⟩ := Kd.R_slice HO368.out; subst eo101; obtain ⟨Ao102, co102, eo102⟩ := Kd.R_slice HO_5.out; subst eo102) | (go_at_call 17; (with_reducible refine (dactylref01_Ints.calls k3 _ _ t366 _ _ x5_2 true _ ?side1 ?side2 ?side3 ?side4 A41.out).mono ?_); (case side1 => repeat (first | exact (Kd.R_reads' HO368.out).2.2 | (with_reducible refine Kd.C_alloc ?_ _) | (with_reducible refine Kd.C_drewN ?_ _) | (with_reducible refine Kd.C_drew ?_))); (case side2 => exact (Kd.R_reads' HO368.out).2.1); (case side3 => repeat (first | exact (Kd.R_reads' HO_5.out).2.2 | (with_reducible refine Kd.C_alloc ?_ _) | (with_reducible refine Kd.C_drewN ?_ _) | (with_reducible refine Kd.C_drew ?_))); (case side4 => exact (Kd.R_reads' HO_5.out).2.1); rintro e w' ⟨rfl, ⟨nd, rfl⟩⟩) | (go_at_call 19; (with_reducible refine (spoof_Mixed.calls k3 a0 t370 _ A43.out).mono ?_); rintro e w103 ⟨rfl, hb⟩; have n0_ := Aside0.mk (Kd.R_below (zk HO_5.out) hb); have n1_ := Aside0.mk (Kd.R_below (zk HO368.out) hb); have n2_ := Aside0.mk (below_step zb hb); clear HO_5; clear HO368; clear HB; have HO_5 := n0_; have HO368 := n1_; have HB := n2_; clear n0_ n1_ n2_; (try clear hb); (try clear hb2); (try clear hk); (try clear hi)))
                go_ret
                exact ⟨zr, zb⟩
            ·replace c44 := Bool.eq_false_iff.mpr c44
             subst c44
             have H1 : (if t363 = true then (if (t370 == t364) = true then ((spoof_Find.f k3 a0 l1).bind fun t374 => (some (t374 == x7_3))) else (some false)) else (if (t370 == false) = true then ((spoof_Find.f k3 a0 l1).bind fun t375 => (some (t375 == x7_3))) else (some false))) = some r := by rw [if_neg (show ¬ (false = true) by decide)] at H; exact H
             clear H
             have H := H1
             clear H1
             by_cases c104 : t363 = true
             ·subst c104
              have H1 : (if (t370 == t364) = true then ((spoof_Find.f k3 a0 l1).bind fun t374 => (some (t374 == x7_3))) else (some false)) = some r := by rw [if_pos rfl] at H; exact H
              clear H
              have H := H1
              clear H1
              by_cases c105 : (t370 == t364) = true
              ·rw [if_pos c105] at H
               have c105b0 : (t370 == t364) = true := c105
               (try (have c105b1 : decide (t370 = t364) = true := by simpa using c105))
               (try (have c105b2 : (t370 == t364) = true := by simpa using c105))
               clear c105
               replace H := Option.bind_eq_some_iff.mp H
               obtain ⟨t374, A1060, H⟩ := H
               replace H : (some (t374 == x7_3)) = some r := H
               have A106 := Aside0.mk A1060
               clear A1060
               obtain rfl := Option.some.inj H
               go_wp2_with (first | ((with_reducible refine gate_callee (f := 16) rfl ?_); refine goesL_ (some 66) rfl rfl Try.func16 (by kernel_rfl) rfl #[.string a0, .int .i64 1] rfl zl ?_; (with_reducible refine (dactylref44_Has.calls k3 a0 1 false _ A35.out).mono ?_); rintro e w107 ⟨rfl, hb⟩; refine ⟨_, rfl, ?_⟩; have n0_ := Aside0.mk (Kd.R_below (zk HO_5.out) hb); have n1_ := Aside0.mk (below_step zb hb); clear HO_5; clear HB; have HO_5 := n0_; have HB := n1_; clear n0_ n1_; (try clear hb); (try clear hb2); (try clear hk); (try clear hi)) | ((with_reducible refine gate_callee (f := 16) rfl ?_); refine goesL_ (some 68) rfl rfl Try.func16 (by kernel_rfl) rfl #[.string a0, .int .i64 2] rfl zl ?_; (with_reducible refine (dactylref44_Has.calls k3 a0 2 true _ A36.out).mono ?_); rintro e w108 ⟨rfl, hb⟩; refine ⟨_, rfl, ?_⟩; have n0_ := Aside0.mk (Kd.R_below (zk HO_5.out) hb); have n1_ := Aside0.mk (below_step zb hb); clear HO_5; clear HB; have HO_5 := n0_; have HB := n1_; clear n0_ n1_; (try clear hb); (try clear hb2); (try clear hk); (try clear hi)) | ((with_reducible refine gate_callee (f := 16) rfl ?_); refine goesL_ (some 70) rfl rfl Try.func16 (by kernel_rfl) rfl #[.string a0, .int .i64 3] rfl zl ?_; (with_reducible refine (dactylref44_Has.calls k3 a0 3 t364 _ A37.out).mono ?_); rintro e w109 ⟨rfl, hb⟩; refine ⟨_, rfl, ?_⟩; have n0_ := Aside0.mk (Kd.R_below (zk HO_5.out) hb); have n1_ := Aside0.mk (below_step zb hb); clear HO_5; clear HB; have HO_5 := n0_; have HB := n1_; clear n0_ n1_; (try clear hb); (try clear hb2); (try clear hk); (try clear hi)) | ((with_reducible refine gate_callee (f := 6) rfl ?_); refine goesL_ (some 71) rfl rfl Try.func6 (by kernel_rfl) rfl #[] rfl zl ?_; (with_reducible refine (dactyllaw44_awake.calls k3  true _ A38.out).mono ?_); rintro e w110 ⟨rfl, hb⟩; refine ⟨_, rfl, ?_⟩; have n0_ := Aside0.mk (Kd.R_below (zk HO_5.out) hb); have n1_ := Aside0.mk (below_step zb hb); clear HO_5; clear HB; have HO_5 := n0_; have HB := n1_; clear n0_ n1_; (try clear hb); (try clear hb2); (try clear hk); (try clear hi)) | (go_at_call 18; (with_reducible refine (spoof_Scripts.calls k3 a0 t366 _ A40.out).mono ?_); rintro e w111 ⟨v367, rfl, ho0, hb⟩; have n0_ := Aside0.mk (Kd.R_elder' (zk HO_5.out) (Kd.R_base ho0) hb); have n1_ := Aside0.mk (Kd.R_lower (Kd.R_new' ho0 (Kd.R_lt (zk HO_5.out))) (below_size zb)); have n2_ := Aside0.mk (below_step zb hb); clear HO_5; clear HB; have HO_5 := n0_; have HO368 := n1_; have HB := n2_; clear n0_ n1_ n2_; (try clear hb); (try clear hb2); (try clear hk); (try clear hi); (try clear ho0); obtain ⟨Ao112, co112, eo112⟩ := Kd.R_slice HO368.out; subst eo112; obtain ⟨Ao113, co113, eo113⟩ := Kd.R_slice HO_5.out; subst eo113) | (go_at_call 17; (with_reducible refine (dactylref01_Ints.calls k3 _ _ t366 _ _ x5_2 true _ ?side1 ?side2 ?side3 ?side4 A41.out).mono ?_); (case side1 => repeat (first | exact (Kd.R_reads' HO368.out).2.2 | (with_reducible refine Kd.C_alloc ?_ _) | (with_reducible refine Kd.C_drewN ?_ _) | (with_reducible refine Kd.C_drew ?_))); (case side2 => exact (Kd.R_reads' HO368.out).2.1); (case side3 => repeat (first | exact (Kd.R_reads' HO_5.out).2.2 | (with_reducible refine Kd.C_alloc ?_ _) | (with_reducible refine Kd.C_drewN ?_ _) | (with_reducible refine Kd.C_drew ?_))); (case side4 => exact (Kd.R_reads' HO_5.out).2.1); rintro e w' ⟨rfl, ⟨nd, rfl⟩⟩) | (go_at_call 19; (with_reducible refine (spoof_Mixed.calls k3 a0 t370 _ A43.out).mono ?_); rintro e w114 ⟨rfl, hb⟩; have n0_ := Aside0.mk (Kd.R_below (zk HO_5.out) hb); have n1_ := Aside0.mk (Kd.R_below (zk HO368.out) hb); have n2_ := Aside0.mk (below_step zb hb); clear HO_5; clear HO368; clear HB; have HO_5 := n0_; have HO368 := n1_; have HB := n2_; clear n0_ n1_ n2_; (try clear hb); (try clear hb2); (try clear hk); (try clear hi)) | (go_at_call 20; (with_reducible refine (spoof_Find.calls k3 a0 _ _ l1 t374 _ ?side1 ?side2 A106.out).mono ?_); (case side1 => repeat (first | exact (Kd.C_below HR1.out HB.out) | (with_reducible refine Kd.C_alloc ?_ _) | (with_reducible refine Kd.C_drewN ?_ _) | (with_reducible refine Kd.C_drew ?_))); (case side2 => exact HC1.out); rintro e w115 ⟨rfl, hb⟩; have n0_ := Aside0.mk (Kd.R_below (zk HO_5.out) hb); have n1_ := Aside0.mk (Kd.R_below (zk HO368.out) hb); have n2_ := Aside0.mk (below_step zb hb); clear HO_5; clear HO368; clear HB; have HO_5 := n0_; have HO368 := n1_; have HB := n2_; clear n0_ n1_ n2_; (try clear hb); (try clear hb2); (try clear hk); (try clear hi)))
               go_ret
               exact ⟨zr, zb⟩
              ·rw [if_neg c105] at H
               have c105b0 : (t370 == t364) = false := by simpa using c105
               (try (have c105b1 : decide (t370 = t364) = false := by simpa using c105))
               (try (have c105b2 : (t370 == t364) = false := by simpa using c105))
               (try (have c105b3 : ¬ (t370 = t364) := by simpa using c105))
               clear c105
               obtain rfl := Option.some.inj H
               go_wp2_with (first | ((with_reducible refine gate_callee (f := 16) rfl ?_); refine goesL_ (some 66) rfl rfl Try.func16 (by kernel_rfl) rfl #[.string a0, .int .i64 1] rfl zl ?_; (with_reducible refine (dactylref44_Has.calls k3 a0 1 false _ A35.out).mono ?_); rintro e w116 ⟨rfl, hb⟩; refine ⟨_, rfl, ?_⟩; have n0_ := Aside0.mk (Kd.R_below (zk HO_5.out) hb); have n1_ := Aside0.mk (below_step zb hb); clear HO_5; clear HB; have HO_5 := n0_; have HB := n1_; clear n0_ n1_; (try clear hb); (try clear hb2); (try clear hk); (try clear hi)) | ((with_reducible refine gate_callee (f := 16) rfl ?_); refine goesL_ (some 68) rfl rfl Try.func16 (by kernel_rfl) rfl #[.string a0, .int .i64 2] rfl zl ?_; (with_reducible refine (dactylref44_Has.calls k3 a0 2 true _ A36.out).mono ?_); rintro e w117 ⟨rfl, hb⟩; refine ⟨_, rfl, ?_⟩; have n0_ := Aside0.mk (Kd.R_below (zk HO_5.out) hb); have n1_ := Aside0.mk (below_step zb hb); clear HO_5; clear HB; have HO_5 := n0_; have HB := n1_; clear n0_ n1_; (try clear hb); (try clear hb2); (try clear hk); (try clear hi)) | ((with_reducible refine gate_callee (f := 16) rfl ?_); refine goesL_ (some 70) rfl rfl Try.func16 (by kernel_rfl) rfl #[.string a0, .int .i64 3] rfl zl ?_; (with_reducible refine (dactylref44_Has.calls k3 a0 3 t364 _ A37.out).mono ?_); rintro e w118 ⟨rfl, hb⟩; refine ⟨_, rfl, ?_⟩; have n0_ := Aside0.mk (Kd.R_below (zk HO_5.out) hb); have n1_ := Aside0.mk (below_step zb hb); clear HO_5; clear HB; have HO_5 := n0_; have HB := n1_; clear n0_ n1_; (try clear hb); (try clear hb2); (try clear hk); (try clear hi)) | ((with_reducible refine gate_callee (f := 6) rfl ?_); refine goesL_ (some 71) rfl rfl Try.func6 (by kernel_rfl) rfl #[] rfl zl ?_; (with_reducible refine (dactyllaw44_awake.calls k3  true _ A38.out).mono ?_); rintro e w119 ⟨rfl, hb⟩; refine ⟨_, rfl, ?_⟩; have n0_ := Aside0.mk (Kd.R_below (zk HO_5.out) hb); have n1_ := Aside0.mk (below_step zb hb); clear HO_5; clear HB; have HO_5 := n0_; have HB := n1_; clear n0_ n1_; (try clear hb); (try clear hb2); (try clear hk); (try clear hi)) | (go_at_call 18; (with_reducible refine (spoof_Scripts.calls k3 a0 t366 _ A40.out).mono ?_); rintro e w120 ⟨v367, rfl, ho0, hb⟩; have n0_ := Aside0.mk (Kd.R_elder' (zk HO_5.out) (Kd.R_base ho0) hb); have n1_ := Aside0.mk (Kd.R_lower (Kd.R_new' ho0 (Kd.R_lt (zk HO_5.out))) (below_size zb)); have n2_ := Aside0.mk (below_step zb hb); clear HO_5; clear HB; have HO_5 := n0_; have HO368 := n1_; have HB := n2_; clear n0_ n1_ n2_; (try clear hb); (try clear hb2); (try clear hk); (try clear hi); (try clear ho0); obtain ⟨Ao121, co121, eo121⟩ := Kd.R_slice HO368.out; subst eo121; obtain ⟨Ao122, co122, eo122⟩ := Kd.R_slice HO_5.out; subst eo122) | (go_at_call 17; (with_reducible refine (dactylref01_Ints.calls k3 _ _ t366 _ _ x5_2 true _ ?side1 ?side2 ?side3 ?side4 A41.out).mono ?_); (case side1 => repeat (first | exact (Kd.R_reads' HO368.out).2.2 | (with_reducible refine Kd.C_alloc ?_ _) | (with_reducible refine Kd.C_drewN ?_ _) | (with_reducible refine Kd.C_drew ?_))); (case side2 => exact (Kd.R_reads' HO368.out).2.1); (case side3 => repeat (first | exact (Kd.R_reads' HO_5.out).2.2 | (with_reducible refine Kd.C_alloc ?_ _) | (with_reducible refine Kd.C_drewN ?_ _) | (with_reducible refine Kd.C_drew ?_))); (case side4 => exact (Kd.R_reads' HO_5.out).2.1); rintro e w' ⟨rfl, ⟨nd, rfl⟩⟩) | (go_at_call 19; (with_reducible refine (spoof_Mixed.calls k3 a0 t370 _ A43.out).mono ?_); rintro e w123 ⟨rfl, hb⟩; have n0_ := Aside0.mk (Kd.R_below (zk HO_5.out) hb); have n1_ := Aside0.mk (Kd.R_below (zk HO368.out) hb); have n2_ := Aside0.mk (below_step zb hb); clear HO_5; clear HO368; clear HB; have HO_5 := n0_; have HO368 := n1_; have HB := n2_; clear n0_ n1_ n2_; (try clear hb); (try clear hb2); (try clear hk); (try clear hi)))
               go_ret
               exact ⟨zr, zb⟩
             ·replace c104 := Bool.eq_false_iff.mpr c104
              subst c104
              have H1 : (if (t370 == false) = true then ((spoof_Find.f k3 a0 l1).bind fun t375 => (some (t375 == x7_3))) else (some false)) = some r := by rw [if_neg (show ¬ (false = true) by decide)] at H; exact H
              clear H
              have H := H1
              clear H1
              by_cases c124 : (t370 == false) = true
              ·rw [if_pos c124] at H
               have c124b0 : (t370 == false) = true := c124
               (try (have c124b1 : decide (t370 = false) = true := by simpa using c124))
               (try (have c124b2 : (t370 == false) = true := by simpa using c124))
               clear c124
               replace H := Option.bind_eq_some_iff.mp H
               obtain ⟨t375, A1250, H⟩ := H
               replace H : (some (t375 == x7_3)) = some r := H
               have A125 := Aside0.mk A1250
               clear A1250
               obtain rfl := Option.some.inj H
               go_wp2_with (first | ((with_reducible refine gate_callee (f := 16) rfl ?_); refine goesL_ (some 66) rfl rfl Try.func16 (by kernel_rfl) rfl #[.string a0, .int .i64 1] rfl zl ?_; (with_reducible refine (dactylref44_Has.calls k3 a0 1 false _ A35.out).mono ?_); rintro e w126 ⟨rfl, hb⟩; refine ⟨_, rfl, ?_⟩; have n0_ := Aside0.mk (Kd.R_below (zk HO_5.out) hb); have n1_ := Aside0.mk (below_step zb hb); clear HO_5; clear HB; have HO_5 := n0_; have HB := n1_; clear n0_ n1_; (try clear hb); (try clear hb2); (try clear hk); (try clear hi)) | ((with_reducible refine gate_callee (f := 16) rfl ?_); refine goesL_ (some 68) rfl rfl Try.func16 (by kernel_rfl) rfl #[.string a0, .int .i64 2] rfl zl ?_; (with_reducible refine (dactylref44_Has.calls k3 a0 2 false _ A36.out).mono ?_); rintro e w127 ⟨rfl, hb⟩; refine ⟨_, rfl, ?_⟩; have n0_ := Aside0.mk (Kd.R_below (zk HO_5.out) hb); have n1_ := Aside0.mk (below_step zb hb); clear HO_5; clear HB; have HO_5 := n0_; have HB := n1_; clear n0_ n1_; (try clear hb); (try clear hb2); (try clear hk); (try clear hi)) | ((with_reducible refine gate_callee (f := 16) rfl ?_); refine goesL_ (some 70) rfl rfl Try.func16 (by kernel_rfl) rfl #[.string a0, .int .i64 3] rfl zl ?_; (with_reducible refine (dactylref44_Has.calls k3 a0 3 t364 _ A37.out).mono ?_); rintro e w128 ⟨rfl, hb⟩; refine ⟨_, rfl, ?_⟩; have n0_ := Aside0.mk (Kd.R_below (zk HO_5.out) hb); have n1_ := Aside0.mk (below_step zb hb); clear HO_5; clear HB; have HO_5 := n0_; have HB := n1_; clear n0_ n1_; (try clear hb); (try clear hb2); (try clear hk); (try clear hi)) | ((with_reducible refine gate_callee (f := 6) rfl ?_); refine goesL_ (some 71) rfl rfl Try.func6 (by kernel_rfl) rfl #[] rfl zl ?_; (with_reducible refine (dactyllaw44_awake.calls k3  true _ A38.out).mono ?_); rintro e w129 ⟨rfl, hb⟩; refine ⟨_, rfl, ?_⟩; have n0_ := Aside0.mk (Kd.R_below (zk HO_5.out) hb); have n1_ := Aside0.mk (below_step zb hb); clear HO_5; clear HB; have HO_5 := n0_; have HB := n1_; clear n0_ n1_; (try clear hb); (try clear hb2); (try clear hk); (try clear hi)) | (go_at_call 18; (with_reducible refine (spoof_Scripts.calls k3 a0 t366 _ A40.out).mono ?_); rintro e w130 ⟨v367, rfl, ho0, hb⟩; have n0_ := Aside0.mk (Kd.R_elder' (zk HO_5.out) (Kd.R_base ho0) hb); have n1_ := Aside0.mk (Kd.R_lower (Kd.R_new' ho0 (Kd.R_lt (zk HO_5.out))) (below_size zb)); have n2_ := Aside0.mk (below_step zb hb); clear HO_5; clear HB; have HO_5 := n0_; have HO368 := n1_; have HB := n2_; clear n0_ n1_ n2_; (try clear hb); (try clear hb2); (try clear hk); (try clear hi); (try clear ho0); obtain ⟨Ao131, co131, eo131⟩ := Kd.R_slice HO368.out; subst eo131; obtain ⟨Ao132, co132, eo132⟩ := Kd.R_slice HO_5.out; subst eo132) | (go_at_call 17; (with_reducible refine (dactylref01_Ints.calls k3 _ _ t366 _ _ x5_2 true _ ?side1 ?side2 ?side3 ?side4 A41.out).mono ?_); (case side1 => repeat (first | exact (Kd.R_reads' HO368.out).2.2 | (with_reducible refine Kd.C_alloc ?_ _) | (with_reducible refine Kd.C_drewN ?_ _) | (with_reducible refine Kd.C_drew ?_))); (case side2 => exact (Kd.R_reads' HO368.out).2.1); (case side3 => repeat (first | exact (Kd.R_reads' HO_5.out).2.2 | (with_reducible refine Kd.C_alloc ?_ _) | (with_reducible refine Kd.C_drewN ?_ _) | (with_reducible refine Kd.C_drew ?_))); (case side4 => exact (Kd.R_reads' HO_5.out).2.1); rintro e w' ⟨rfl, ⟨nd, rfl⟩⟩) | (go_at_call 19; (with_reducible refine (spoof_Mixed.calls k3 a0 t370 _ A43.out).mono ?_); rintro e w133 ⟨rfl, hb⟩; have n0_ := Aside0.mk (Kd.R_below (zk HO_5.out) hb); have n1_ := Aside0.mk (Kd.R_below (zk HO368.out) hb); have n2_ := Aside0.mk (below_step zb hb); clear HO_5; clear HO368; clear HB; have HO_5 := n0_; have HO368 := n1_; have HB := n2_; clear n0_ n1_ n2_; (try clear hb); (try clear hb2); (try clear hk); (try clear hi)) | (go_at_call 20; (with_reducible refine (spoof_Find.calls k3 a0 _ _ l1 t375 _ ?side1 ?side2 A125.out).mono ?_); (case side1 => repeat (first | exact (Kd.C_below HR1.out HB.out) | (with_reducible refine Kd.C_alloc ?_ _) | (with_reducible refine Kd.C_drewN ?_ _) | (with_reducible refine Kd.C_drew ?_))); (case side2 => exact HC1.out); rintro e w134 ⟨rfl, hb⟩; have n0_ := Aside0.mk (Kd.R_below (zk HO_5.out) hb); have n1_ := Aside0.mk (Kd.R_below (zk HO368.out) hb); have n2_ := Aside0.mk (below_step zb hb); clear HO_5; clear HO368; clear HB; have HO_5 := n0_; have HO368 := n1_; have HB := n2_; clear n0_ n1_ n2_; (try clear hb); (try clear hb2); (try clear hk); (try clear hi)))
               go_ret
               exact ⟨zr, zb⟩
              ·rw [if_neg c124] at H
               have c124b0 : (t370 == false) = false := by simpa using c124
               (try (have c124b1 : decide (t370 = false) = false := by simpa using c124))
               (try (have c124b2 : (t370 == false) = false := by simpa using c124))
               (try (have c124b3 : ¬ (t370 = false) := by simpa using c124))
               clear c124
               obtain rfl := Option.some.inj H
               go_wp2_with (first | ((with_reducible refine gate_callee (f := 16) rfl ?_); refine goesL_ (some 66) rfl rfl Try.func16 (by kernel_rfl) rfl #[.string a0, .int .i64 1] rfl zl ?_; (with_reducible refine (dactylref44_Has.calls k3 a0 1 false _ A35.out).mono ?_); rintro e w135 ⟨rfl, hb⟩; refine ⟨_, rfl, ?_⟩; have n0_ := Aside0.mk (Kd.R_below (zk HO_5.out) hb); have n1_ := Aside0.mk (below_step zb hb); clear HO_5; clear HB; have HO_5 := n0_; have HB := n1_; clear n0_ n1_; (try clear hb); (try clear hb2); (try clear hk); (try clear hi)) | ((with_reducible refine gate_callee (f := 16) rfl ?_); refine goesL_ (some 68) rfl rfl Try.func16 (by kernel_rfl) rfl #[.string a0, .int .i64 2] rfl zl ?_; (with_reducible refine (dactylref44_Has.calls k3 a0 2 false _ A36.out).mono ?_); rintro e w136 ⟨rfl, hb⟩; refine ⟨_, rfl, ?_⟩; have n0_ := Aside0.mk (Kd.R_below (zk HO_5.out) hb); have n1_ := Aside0.mk (below_step zb hb); clear HO_5; clear HB; have HO_5 := n0_; have HB := n1_; clear n0_ n1_; (try clear hb); (try clear hb2); (try clear hk); (try clear hi)) | ((with_reducible refine gate_callee (f := 16) rfl ?_); refine goesL_ (some 70) rfl rfl Try.func16 (by kernel_rfl) rfl #[.string a0, .int .i64 3] rfl zl ?_; (with_reducible refine (dactylref44_Has.calls k3 a0 3 t364 _ A37.out).mono ?_); rintro e w137 ⟨rfl, hb⟩; refine ⟨_, rfl, ?_⟩; have n0_ := Aside0.mk (Kd.R_below (zk HO_5.out) hb); have n1_ := Aside0.mk (below_step zb hb); clear HO_5; clear HB; have HO_5 := n0_; have HB := n1_; clear n0_ n1_; (try clear hb); (try clear hb2); (try clear hk); (try clear hi)) | ((with_reducible refine gate_callee (f := 6) rfl ?_); refine goesL_ (some 71) rfl rfl Try.func6 (by kernel_rfl) rfl #[] rfl zl ?_; (with_reducible refine (dactyllaw44_awake.calls k3  true _ A38.out).mono ?_); rintro e w138 ⟨rfl, hb⟩; refine ⟨_, rfl, ?_⟩; have n0_ := Aside0.mk (Kd.R_below (zk HO_5.out) hb); have n1_ := Aside0.mk (below_step zb hb); clear HO_5; clear HB; have HO_5 := n0_; have HB := n1_; clear n0_ n1_; (try clear hb); (try clear hb2); (try clear hk); (try clear hi)) | (go_at_call 18; (with_reducible refine (spoof_Scripts.calls k3 a0 t366 _ A40.out).mono ?_); rintro e w139 ⟨v367, rfl, ho0, hb⟩; have n0_ := Aside0.mk (Kd.R_elder' (zk HO_5.out) (Kd.R_base ho0) hb); have n1_ := Aside0.mk (Kd.R_lower (Kd.R_new' ho0 (Kd.R_lt (zk HO_5.out))) (below_size zb)); have n2_ := Aside0.mk (below_step zb hb); clear HO_5; clear HB; have HO_5 := n0_; have HO368 := n1_; have HB := n2_; clear n0_ n1_ n2_; (try clear hb); (try clear hb2); (try clear hk); (try clear hi); (try clear ho0); obtain ⟨Ao140, co140, eo140⟩ := Kd.R_slice HO368.out; subst eo140; obtain ⟨Ao141, co141, eo141⟩ := Kd.R_slice HO_5.out; subst eo141) | (go_at_call 17; (with_reducible refine (dactylref01_Ints.calls k3 _ _ t366 _ _ x5_2 true _ ?side1 ?side2 ?side3 ?side4 A41.out).mono ?_); (case side1 => repeat (first | exact (Kd.R_reads' HO368.out).2.2 | (with_reducible refine Kd.C_alloc ?_ _) | (with_reducible refine Kd.C_drewN ?_ _) | (with_reducible refine Kd.C_drew ?_))); (case side2 => exact (Kd.R_reads' HO368.out).2.1); (case side3 => repeat (first | exact (Kd.R_reads' HO_5.out).2.2 | (with_reducible refine Kd.C_alloc ?_ _) | (with_reducible refine Kd.C_drewN ?_ _) | (with_reducible refine Kd.C_drew ?_))); (case side4 => exact (Kd.R_reads' HO_5.out).2.1); rintro e w' ⟨rfl, ⟨nd, rfl⟩⟩) | (go_at_call 19; (with_reducible refine (spoof_Mixed.calls k3 a0 t370 _ A43.out).mono ?_); rintro e w142 ⟨rfl, hb⟩; have n0_ := Aside0.mk (Kd.R_below (zk HO_5.out) hb); have n1_ := Aside0.mk (Kd.R_below (zk HO368.out) hb); have n2_ := Aside0.mk (below_step zb hb); clear HO_5; clear HO368; clear HB; have HO_5 := n0_; have HO368 := n1_; have HB := n2_; clear n0_ n1_ n2_; (try clear hb); (try clear hb2); (try clear hk); (try clear hi)))
               go_ret
               exact ⟨zr, zb⟩
           ·replace c42 := Bool.eq_false_iff.mpr c42
            subst c42
            have H1 : (some false) = some r := by rw [if_neg (show ¬ (false = true) by decide)] at H; exact H
            clear H
            have H := H1
            clear H1
            obtain rfl := Option.some.inj H
            go_wp2_with (first | ((with_reducible refine gate_callee (f := 16) rfl ?_); refine goesL_ (some 66) rfl rfl Try.func16 (by kernel_rfl) rfl #[.string a0, .int .i64 1] rfl zl ?_; (with_reducible refine (dactylref44_Has.calls k3 a0 1 t362 _ A35.out).mono ?_); rintro e w143 ⟨rfl, hb⟩; refine ⟨_, rfl, ?_⟩; have n0_ := Aside0.mk (Kd.R_below (zk HO_5.out) hb); have n1_ := Aside0.mk (below_step zb hb); clear HO_5; clear HB; have HO_5 := n0_; have HB := n1_; clear n0_ n1_; (try clear hb); (try clear hb2); (try clear hk); (try clear hi)) | ((with_reducible refine gate_callee (f := 16) rfl ?_); refine goesL_ (some 68) rfl rfl Try.func16 (by kernel_rfl) rfl #[.string a0, .int .i64 2] rfl zl ?_; (with_reducible refine (dactylref44_Has.calls k3 a0 2 t363 _ A36.out).mono ?_); rintro e w144 ⟨rfl, hb⟩; refine ⟨_, rfl, ?_⟩; have n0_ := Aside0.mk (Kd.R_below (zk HO_5.out) hb); have n1_ := Aside0.mk (below_step zb hb); clear HO_5; clear HB; have HO_5 := n0_; have HB := n1_; clear n0_ n1_; (try clear hb); (try clear hb2); (try clear hk); (try clear hi)) | ((with_reducible refine gate_callee (f := 16) rfl ?_); refine goesL_ (some 70) rfl rfl Try.func16 (by kernel_rfl) rfl #[.string a0, .int .i64 3] rfl zl ?_; (with_reducible refine (dactylref44_Has.calls k3 a0 3 t364 _ A37.out).mono ?_); rintro e w145 ⟨rfl, hb⟩; refine ⟨_, rfl, ?_⟩; have n0_ := Aside0.mk (Kd.R_below (zk HO_5.out) hb); have n1_ := Aside0.mk (below_step zb hb); clear HO_5; clear HB; have HO_5 := n0_; have HB := n1_; clear n0_ n1_; (try clear hb); (try clear hb2); (try clear hk); (try clear hi)) | ((with_reducible refine gate_callee (f := 6) rfl ?_); refine goesL_ (some 71) rfl rfl Try.func6 (by kernel_rfl) rfl #[] rfl zl ?_; (with_reducible refine (dactyllaw44_awake.calls k3  true _ A38.out).mono ?_); rintro e w146 ⟨rfl, hb⟩; refine ⟨_, rfl, ?_⟩; have n0_ := Aside0.mk (Kd.R_below (zk HO_5.out) hb); have n1_ := Aside0.mk (below_step zb hb); clear HO_5; clear HB; have HO_5 := n0_; have HB := n1_; clear n0_ n1_; (try clear hb); (try clear hb2); (try clear hk); (try clear hi)) | (go_at_call 18; (with_reducible refine (spoof_Scripts.calls k3 a0 t366 _ A40.out).mono ?_); rintro e w147 ⟨v367, rfl, ho0, hb⟩; have n0_ := Aside0.mk (Kd.R_elder' (zk HO_5.out) (Kd.R_base ho0) hb); have n1_ := Aside0.mk (Kd.R_lower (Kd.R_new' ho0 (Kd.R_lt (zk HO_5.out))) (below_size zb)); have n2_ := Aside0.mk (below_step zb hb); clear HO_5; clear HB; have HO_5 := n0_; have HO368 := n1_; have HB := n2_; clear n0_ n1_ n2_; (try clear hb); (try clear hb2); (try clear hk); (try clear hi); (try clear ho0); obtain ⟨Ao148, co148, eo148⟩ := Kd.R_slice HO368.out; subst eo148; obtain ⟨Ao149, co149, eo149⟩ := Kd.R_slice HO_5.out; subst eo149) | (go_at_call 17; (with_reducible refine (dactylref01_Ints.calls k3 _ _ t366 _ _ x5_2 false _ ?side1 ?side2 ?side3 ?side4 A41.out).mono ?_); (case side1 => repeat (first | exact (Kd.R_reads' HO368.out).2.2 | (with_reducible refine Kd.C_alloc ?_ _) | (with_reducible refine Kd.C_drewN ?_ _) | (with_reducible refine Kd.C_drew ?_))); (case side2 => exact (Kd.R_reads' HO368.out).2.1); (case side3 => repeat (first | exact (Kd.R_reads' HO_5.out).2.2 | (with_reducible refine Kd.C_alloc ?_ _) | (with_reducible refine Kd.C_drewN ?_ _) | (with_reducible refine Kd.C_drew ?_))); (case side4 => exact (Kd.R_reads' HO_5.out).2.1); rintro e w' ⟨rfl, ⟨nd, rfl⟩⟩))
            go_ret
            exact ⟨zr, zb⟩
          ·replace c39 := Bool.eq_false_iff.mpr c39
           subst c39
           have H1 : (some false) = some r := by rw [if_neg (show ¬ (false = true) by decide)] at H; exact H
           clear H
           have H := H1
           clear H1
           obtain rfl := Option.some.inj H
           go_wp2_with (first | ((with_reducible refine gate_callee (f := 16) rfl ?_); refine goesL_ (some 66) rfl rfl Try.func16 (by kernel_rfl) rfl #[.string a0, .int .i64 1] rfl zl ?_; (with_reducible refine (dactylref44_Has.calls k3 a0 1 t362 _ A35.out).mono ?_); rintro e w150 ⟨rfl, hb⟩; refine ⟨_, rfl, ?_⟩; have n0_ := Aside0.mk (Kd.R_below (zk HO_5.out) hb); have n1_ := Aside0.mk (below_step zb hb); clear HO_5; clear HB; have HO_5 := n0_; have HB := n1_; clear n0_ n1_; (try clear hb); (try clear hb2); (try clear hk); (try clear hi)) | ((with_reducible refine gate_callee (f := 16) rfl ?_); refine goesL_ (some 68) rfl rfl Try.func16 (by kernel_rfl) rfl #[.string a0, .int .i64 2] rfl zl ?_; (with_reducible refine (dactylref44_Has.calls k3 a0 2 t363 _ A36.out).mono ?_); rintro e w151 ⟨rfl, hb⟩; refine ⟨_, rfl, ?_⟩; have n0_ := Aside0.mk (Kd.R_below (zk HO_5.out) hb); have n1_ := Aside0.mk (below_step zb hb); clear HO_5; clear HB; have HO_5 := n0_; have HB := n1_; clear n0_ n1_; (try clear hb); (try clear hb2); (try clear hk); (try clear hi)) | ((with_reducible refine gate_callee (f := 16) rfl ?_); refine goesL_ (some 70) rfl rfl Try.func16 (by kernel_rfl) rfl #[.string a0, .int .i64 3] rfl zl ?_; (with_reducible refine (dactylref44_Has.calls k3 a0 3 t364 _ A37.out).mono ?_); rintro e w152 ⟨rfl, hb⟩; refine ⟨_, rfl, ?_⟩; have n0_ := Aside0.mk (Kd.R_below (zk HO_5.out) hb); have n1_ := Aside0.mk (below_step zb hb); clear HO_5; clear HB; have HO_5 := n0_; have HB := n1_; clear n0_ n1_; (try clear hb); (try clear hb2); (try clear hk); (try clear hi)) | ((with_reducible refine gate_callee (f := 6) rfl ?_); refine goesL_ (some 71) rfl rfl Try.func6 (by kernel_rfl) rfl #[] rfl zl ?_; (with_reducible refine (dactyllaw44_awake.calls k3  false _ A38.out).mono ?_); rintro e w153 ⟨rfl, hb⟩; refine ⟨_, rfl, ?_⟩; have n0_ := Aside0.mk (Kd.R_below (zk HO_5.out) hb); have n1_ := Aside0.mk (below_step zb hb); clear HO_5; clear HB; have HO_5 := n0_; have HB := n1_; clear n0_ n1_; (try clear hb); (try clear hb2); (try clear hk); (try clear hi)))
           go_ret
           exact ⟨zr, zb⟩

end Go.Proofs.Ytpkmoonfnbcphaa.PAll
