-- Printed for this claim by the session's own program (wip/tool/hprint.py) over the kit's print; some functions' texts are the session's own.
import Derived.Test.YtddkmhkglmcihaaPAllx0
import Derived.Test.YtddkmhkglmcihaaPAllx8
import Derived.Test.YtddkmhkglmcihaaPAllx9
import Derived.Test.YtddkmhkglmcihaaPAllx14
namespace Go.Proofs.Ytddkmhkglmcihaa.PAll
open Go.RowKit Go.Proofs.YtddkmhkglmcihaaW.PrintWords Go.Proofs.YtddkmhkglmcihaaW.PrintLast Go.Proofs.YtddkmhkglmcihaaW.PrintMore
attribute [local go_sem] max2_int min2_int max_two min_two max_three min_three max_four min_four   -- for this text's walks alone
set_option linter.unusedVariables false
set_option linter.unusedSimpArgs false

/-! ### dactyllaw10_EmitCloses: function 6 -/
def dactyllaw10_EmitCloses.j0 : Nat → ByteArray → ByteArray → Bool → Option (Bool)
 | 0, _, _, _ => none
 | k + 1, x0, x1, x28 => if x28 = true then ((dactyllaw10_awake.f).bind fun t339 => (some t339)) else ((emit_Parse.f k x0).bind fun bt340 => ((emit_Parse.f k x1).bind fun bt344 => (if x0.size + x1.size ≤ 9223372036854775807 then ((emit_Parse.f k (x0 ++ x1)).bind fun bt348 => ((dactyllaw10_awake.f).bind fun t352 => (if t352 = true then (if bt340.2 = 0 then (if bt344.2 = 0 then (if bt348.2 = 0 then ((some (([] : List (S31)) : List (S31))).bind fun y353 => (if y353.length + bt340.1.length < 3518437208883 then ((some (y353 ++ bt340.1 : List (S31))).bind fun y356 => (if y356.length + bt344.1.length < 3518437208883 then ((dactylref10_Joined.f k (y356 ++ bt344.1)).bind fun t362 => ((dactylref10_Same.f k bt348.1 t362).bind fun t365 => (some t365))) else (none))) else (none))) else (some false)) else (some false)) else (some false)) else (some false)))) else (none))))
def dactyllaw10_EmitCloses.f (k : Nat) (a0 : ByteArray) (a1 : ByteArray) : Option (Bool) := if (a0.size : Int) > 300 then (dactyllaw10_EmitCloses.j0 k a0 a1 true) else (if (a1.size : Int) > 300 then (dactyllaw10_EmitCloses.j0 k a0 a1 true) else ((emit_Clean.f k a0).bind fun t337 => (if t337 = true then ((emit_Clean.f k a1).bind fun t338 => (dactyllaw10_EmitCloses.j0 k a0 a1 (!t338))) else (dactyllaw10_EmitCloses.j0 k a0 a1 true))))
theorem dactyllaw10_EmitCloses.mono_l : ∀ k, (∀ y0 y1 y2, LeO (dactyllaw10_EmitCloses.j0 k y0 y1 y2) (dactyllaw10_EmitCloses.j0 (k + 1) y0 y1 y2))
 | 0 => fun _ _ _ r h => by simp [dactyllaw10_EmitCloses.j0] at h
 | k + 1 => by
  have ih0 := dactyllaw10_EmitCloses.mono_l k
  ·intro y0 y1 y2
   unfold dactyllaw10_EmitCloses.j0
   repeat' first
   | (with_reducible exact ih0 _ _ _)
   | (with_reducible exact dactylref10_Joined.mono _ _)
   | (with_reducible exact dactylref10_Same.mono _ _ _)
   | (with_reducible exact emit_Clean.mono _ _)
   | (with_reducible exact emit_Parse.mono _ _)
   | (with_reducible exact LeO.refl _)
   | (with_reducible exact LeO.none _)
   | (with_reducible refine LeO.ite ?_ ?_)
   | (with_reducible refine LeO.bind ?_ (fun _ => ?_))
   | exact ih0 _ _ _
   | exact dactylref10_Joined.mono _ _
   | exact dactylref10_Same.mono _ _ _
   | exact emit_Clean.mono _ _
   | exact emit_Parse.mono _ _
   | exact LeO.none _
   | refine LeO.ite ?_ ?_
   | refine LeO.bind ?_ (fun _ => ?_)
theorem dactyllaw10_EmitCloses.mono : ∀ a0 a1 k, LeO (dactyllaw10_EmitCloses.f k a0 a1) (dactyllaw10_EmitCloses.f (k + 1) a0 a1) := by
 intro a0 a1 k
 have ih0 := dactyllaw10_EmitCloses.mono_l k
 unfold dactyllaw10_EmitCloses.f
 repeat' first
   | (with_reducible exact ih0 _ _ _)
   | (with_reducible exact dactylref10_Joined.mono _ _)
   | (with_reducible exact dactylref10_Same.mono _ _ _)
   | (with_reducible exact emit_Clean.mono _ _)
   | (with_reducible exact emit_Parse.mono _ _)
   | (with_reducible exact LeO.refl _)
   | (with_reducible exact LeO.none _)
   | (with_reducible refine LeO.ite ?_ ?_)
   | (with_reducible refine LeO.bind ?_ (fun _ => ?_))
   | exact ih0 _ _ _
   | exact dactylref10_Joined.mono _ _
   | exact dactylref10_Same.mono _ _ _
   | exact emit_Clean.mono _ _
   | exact emit_Parse.mono _ _
   | exact LeO.none _
   | refine LeO.ite ?_ ?_
   | refine LeO.bind ?_ (fun _ => ?_)
set_option maxHeartbeats 8000000 in
set_option maxRecDepth 100000 in
theorem dactyllaw10_EmitCloses.calls (k : Nat) (a0 : ByteArray) (a1 : ByteArray) (r : Bool) (w : World) (h : dactyllaw10_EmitCloses.f k a0 a1 = some r) :
  Calls Try.prog 6 #[.string a0, .string a1] w fun e w' => e = .returned (.bool r) ∧ Below w.heap.size w w' := by
 have HB := Aside0.mk (Below.refl w.heap.size w)
 have H : (if (a0.size : Int) > 300 then (dactyllaw10_EmitCloses.j0 k a0 a1 true) else (if (a1.size : Int) > 300 then (dactyllaw10_EmitCloses.j0 k a0 a1 true) else ((emit_Clean.f k a0).bind fun t337 => (if t337 = true then ((emit_Clean.f k a1).bind fun t338 => (dactyllaw10_EmitCloses.j0 k a0 a1 (!t338))) else (dactyllaw10_EmitCloses.j0 k a0 a1 true))))) = some r := h
 clear h
 have HC3 := Aside0.mk H
 clear H
 go_enter Try.func6, Try.ntmps6
 go_upto_region 1 with (fail)
 go_cut [28] (fun v28 wc => ∃ (kq : Nat) (x28_2 : Bool), v28 = .bool x28_2 ∧ Aside0 (dactyllaw10_EmitCloses.j0 kq a0 a1 x28_2 = some r) ∧ Aside0 (kq ≤ k) ∧ Aside0 (Below w.heap.size w wc))
 case first =>
  have H := HC3.out
  clear HC3
  by_cases c4 : (a0.size : Int) > 300
  ·rw [if_pos c4] at H
   have c4b0 : decide (300 < (a0.size : Int)) = true := decide_eq_true c4
   have c4b1 : decide (300 < a0.size) = true := decide_eq_true (by omega)
   clear c4
   (first | rw [c4b0] | (simp only [i64_w, i32_w]; rw [c4b0]) | skip)
   have H' := Aside0.mk H
   clear H
   go_wp2
   go_meet
   case rel => exact ⟨_, (true), (by first | rfl | (simp; done) | (simp [*]; done)), H', ⟨by first | omega | exact Nat.le_refl _⟩, ⟨by repeat (first | (with_reducible first | exact HB.out | apply below_alloc | apply pw_below_drewN | apply below_drew1) | exact HB.out)⟩⟩
  ·rw [if_neg c4] at H
   have c4b0 : decide (300 < (a0.size : Int)) = false := decide_eq_false c4
   have c4b1 : decide (300 < a0.size) = false := decide_eq_false (by omega)
   clear c4
   (first | rw [c4b0] | (simp only [i64_w, i32_w]; rw [c4b0]) | skip)
   by_cases c5 : (a1.size : Int) > 300
   ·rw [if_pos c5] at H
    have c5b0 : decide (300 < (a1.size : Int)) = true := decide_eq_true c5
    have c5b1 : decide (300 < a1.size) = true := decide_eq_true (by omega)
    clear c5
    have H' := Aside0.mk H
    clear H
    go_wp2
    go_meet
    case rel => exact ⟨_, (true), (by first | rfl | (simp; done) | (simp [*]; done)), H', ⟨by first | omega | exact Nat.le_refl _⟩, ⟨by repeat (first | (with_reducible first | exact HB.out | apply below_alloc | apply pw_below_drewN | apply below_drew1) | exact HB.out)⟩⟩
   ·rw [if_neg c5] at H
    have c5b0 : decide (300 < (a1.size : Int)) = false := decide_eq_false c5
    have c5b1 : decide (300 < a1.size) = false := decide_eq_false (by omega)
    clear c5
    replace H := Option.bind_eq_some_iff.mp H
    obtain ⟨t337, A60, H⟩ := H
    replace H : (if t337 = true then ((emit_Clean.f k a1).bind fun t338 => (dactyllaw10_EmitCloses.j0 k a0 a1 (!t338))) else (dactyllaw10_EmitCloses.j0 k a0 a1 true)) = some r := H
    have A6 := Aside0.mk A60
    clear A60
    by_cases c7 : t337 = true
    ·subst c7
     have H1 : ((emit_Clean.f k a1).bind fun t338 => (dactyllaw10_EmitCloses.j0 k a0 a1 (!t338))) = some r := by rw [if_pos rfl] at H; exact H
     clear H
     have H := H1
     clear H1
     replace H := Option.bind_eq_some_iff.mp H
     obtain ⟨t338, A80, H⟩ := H
     replace H : (dactyllaw10_EmitCloses.j0 k a0 a1 (!t338)) = some r := H
     have A8 := Aside0.mk A80
     clear A80
     have H' := Aside0.mk H
     clear H
     go_wp2_with (first | (go_at_call 20; (with_reducible refine (emit_Clean.calls k a0 true _ A6.out).mono ?_); rintro e w9 ⟨rfl, hb⟩; have n0_ := Aside0.mk (below_step zb hb); clear HB; have HB := n0_; clear n0_; (try clear hb); (try clear hb2); (try clear hk); (try clear hi)) | (go_at_call 20; (with_reducible refine (emit_Clean.calls k a1 t338 _ A8.out).mono ?_); rintro e w10 ⟨rfl, hb⟩; have n0_ := Aside0.mk (below_step zb hb); clear HB; have HB := n0_; clear n0_; (try clear hb); (try clear hb2); (try clear hk); (try clear hi)))
     go_meet
     case rel => exact ⟨_, (!t338), (by first | rfl | (simp; done) | (simp [*]; done)), H', ⟨by first | omega | exact Nat.le_refl _⟩, ⟨by repeat (first | (with_reducible first | exact HB.out | apply below_alloc | apply pw_below_drewN | apply below_drew1) | exact HB.out)⟩⟩
    ·replace c7 := Bool.eq_false_iff.mpr c7
     subst c7
     have H1 : (dactyllaw10_EmitCloses.j0 k a0 a1 true) = some r := by rw [if_neg (show ¬ (false = true) by decide)] at H; exact H
     clear H
     have H := H1
     clear H1
     have H' := Aside0.mk H
     clear H
     go_wp2_with (first | (go_at_call 20; (with_reducible refine (emit_Clean.calls k a0 false _ A6.out).mono ?_); rintro e w11 ⟨rfl, hb⟩; have n0_ := Aside0.mk (below_step zb hb); clear HB; have HB := n0_; clear n0_; (try clear hb); (try clear hb2); (try clear hk); (try clear hi)))
     go_meet
     case rel => exact ⟨_, (true), (by first | rfl | (simp; done) | (simp [*]; done)), H', ⟨by first | omega | exact Nat.le_refl _⟩, ⟨by repeat (first | (with_reducible first | exact HB.out | apply below_alloc | apply pw_below_drewN | apply below_drew1) | exact HB.out)⟩⟩
 case rest =>
  clear HC3
  try clear p2
  try clear c4
  try clear c4b0
  try clear c4b1
  try clear c5
  try clear c5b0
  try clear c5b1
  try clear c6
  try clear c7
  obtain ⟨kq, x28_2, rfl, HA, HJ2, HB⟩ := hcut
  cases kq with
  | zero => exact absurd HA.out (by simp [dactyllaw10_EmitCloses.j0])
  | succ kj2 =>
   have H := HA.out
   clear HA
   simp only [dactyllaw10_EmitCloses.j0] at H
   by_cases c12 : x28_2 = true
   ·subst c12
    have H1 : ((dactyllaw10_awake.f).bind fun t339 => (some t339)) = some r := by rw [if_pos rfl] at H; exact H
    clear H
    have H := H1
    clear H1
    replace H := Option.bind_eq_some_iff.mp H
    obtain ⟨t339, A130, H⟩ := H
    replace H : (some t339) = some r := H
    have A13 := Aside0.mk A130
    clear A130
    obtain rfl := Option.some.inj H
    go_wp2_with (first | ((with_reducible refine gate_callee (f := 8) rfl ?_); refine goesL_ (some 29) rfl rfl Try.func8 (by kernel_rfl) rfl #[] rfl zl ?_; (with_reducible refine (dactyllaw10_awake.calls  t339 _ A13.out).mono ?_); rintro e w14 ⟨rfl, hb⟩; refine ⟨_, rfl, ?_⟩; have n0_ := Aside0.mk (below_step zb hb); clear HB; have HB := n0_; clear n0_; (try clear hb); (try clear hb2); (try clear hk); (try clear hi)))
    go_ret
    exact ⟨zr, zb⟩
   ·replace c12 := Bool.eq_false_iff.mpr c12
    subst c12
    have H1 : ((emit_Parse.f kj2 a0).bind fun bt340 => ((emit_Parse.f kj2 a1).bind fun bt344 => (if a0.size + a1.size ≤ 9223372036854775807 then ((emit_Parse.f kj2 (a0 ++ a1)).bind fun bt348 => ((dactyllaw10_awake.f).bind fun t352 => (if t352 = true then (if bt340.2 = 0 then (if bt344.2 = 0 then (if bt348.2 = 0 then ((some (([] : List (S31)) : List (S31))).bind fun y353 => (if y353.length + bt340.1.length < 3518437208883 then ((some (y353 ++ bt340.1 : List (S31))).bind fun y356 => (if y356.length + bt344.1.length < 3518437208883 then ((dactylref10_Joined.f kj2 (y356 ++ bt344.1)).bind fun t362 => ((dactylref10_Same.f kj2 bt348.1 t362).bind fun t365 => (some t365))) else (none))) else (none))) else (some false)) else (some false)) else (some false)) else (some false)))) else (none)))) = some r := by rw [if_neg (show ¬ (false = true) by decide)] at H; exact H
    clear H
    have H := H1
    clear H1
    replace H := Option.bind_eq_some_iff.mp H
    obtain ⟨⟨t340, t341⟩, A150, H⟩ := H
    replace H : ((emit_Parse.f kj2 a1).bind fun bt344 => (if a0.size + a1.size ≤ 9223372036854775807 then ((emit_Parse.f kj2 (a0 ++ a1)).bind fun bt348 => ((dactyllaw10_awake.f).bind fun t352 => (if t352 = true then (if t341 = 0 then (if bt344.2 = 0 then (if bt348.2 = 0 then ((some (([] : List (S31)) : List (S31))).bind fun y353 => (if y353.length + t340.length < 3518437208883 then ((some (y353 ++ t340 : List (S31))).bind fun y356 => (if y356.length + bt344.1.length < 3518437208883 then ((dactylref10_Joined.f kj2 (y356 ++ bt344.1)).bind fun t362 => ((dactylref10_Same.f kj2 bt348.1 t362).bind fun t365 => (some t365))) else (none))) else (none))) else (some false)) else (some false)) else (some false)) else (some false)))) else (none))) = some r := H
    have A15 := Aside0.mk A150
    clear A150
    replace H := Option.bind_eq_some_iff.mp H
    obtain ⟨⟨t344, t345⟩, A160, H⟩ := H
    replace H : (if a0.size + a1.size ≤ 9223372036854775807 then ((emit_Parse.f kj2 (a0 ++ a1)).bind fun bt348 => ((dactyllaw10_awake.f).bind fun t352 => (if t352 = true then (if t341 = 0 then (if t345 = 0 then (if bt348.2 = 0 then ((some (([] : List (S31)) : List (S31))).bind fun y353 => (if y353.length + t340.length < 3518437208883 then ((some (y353 ++ t340 : List (S31))).bind fun y356 => (if y356.length + t344.length < 3518437208883 then ((dactylref10_Joined.f kj2 (y356 ++ t344)).bind fun t362 => ((dactylref10_Same.f kj2 bt348.1 t362).bind fun t365 => (some t365))) else (none))) else (none))) else (some false)) else (some false)) else (some false)) else (some false)))) else (none)) = some r := H
    have A16 := Aside0.mk A160
    clear A160
    by_cases c17 : a0.size + a1.size ≤ 9223372036854775807
    ·rw [if_pos c17] at H
     have c17b0 := eq_true c17
     have c17b1 : decide (a0.size + a1.size ≤ 9223372036854775807) = true := decide_eq_true c17
     try have c17b2 : (9223372036854775807 < a0.size + a1.size) = False := eq_false (Nat.not_lt.2 c17)
     replace H := Option.bind_eq_some_iff.mp H
     obtain ⟨⟨t348, t349⟩, A180, H⟩ := H
     replace H : ((dactyllaw10_awake.f).bind fun t352 => (if t352 = true then (if t341 = 0 then (if t345 = 0 then (if t349 = 0 then ((some (([] : List (S31)) : List (S31))).bind fun y353 => (if y353.length + t340.length < 3518437208883 then ((some (y353 ++ t340 : List (S31))).bind fun y356 => (if y356.length + t344.length < 3518437208883 then ((dactylref10_Joined.f kj2 (y356 ++ t344)).bind fun t362 => ((dactylref10_Same.f kj2 t348 t362).bind fun t365 => (some t365))) else (none))) else (none))) else (some false)) else (some false)) else (some false)) else (some false))) = some r := H
     have A18 := Aside0.mk A180
     clear A180
     replace H := Option.bind_eq_some_iff.mp H
     obtain ⟨t352, A190, H⟩ := H
     replace H : (if t352 = true then (if t341 = 0 then (if t345 = 0 then (if t349 = 0 then ((some (([] : List (S31)) : List (S31))).bind fun y353 => (if y353.length + t340.length < 3518437208883 then ((some (y353 ++ t340 : List (S31))).bind fun y356 => (if y356.length + t344.length < 3518437208883 then ((dactylref10_Joined.f kj2 (y356 ++ t344)).bind fun t362 => ((dactylref10_Same.f kj2 t348 t362).bind fun t365 => (some t365))) else (none))) else (none))) else (some false)) else (some false)) else (some false)) else (some false)) = some r := H
     have A19 := Aside0.mk A190
     clear A190
     by_cases c20 : t352 = true
     ·subst c20
      have H1 : (if t341 = 0 then (if t345 = 0 then (if t349 = 0 then ((some (([] : List (S31)) : List (S31))).bind fun y353 => (if y353.length + t340.length < 3518437208883 then ((some (y353 ++ t340 : List (S31))).bind fun y356 => (if y356.length + t344.length < 3518437208883 then ((dactylref10_Joined.f kj2 (y356 ++ t344)).bind fun t362 => ((dactylref10_Same.f kj2 t348 t362).bind fun t365 => (some t365))) else (none))) else (none))) else (some false)) else (some false)) else (some false)) = some r := by rw [if_pos rfl] at H; exact H
      clear H
      have H := H1
      clear H1
      by_cases c21 : t341 = 0
      ·rw [if_pos c21] at H
       have c21b0 : (t341 == 0) = true := beq_iff_eq.mpr c21
       have c21b1 : (t341 != 0) = false := bne_eq_false_iff_eq.mpr c21
       clear c21
       by_cases c22 : t345 = 0
       ·rw [if_pos c22] at H
        have c22b0 : (t345 == 0) = true := beq_iff_eq.mpr c22
        have c22b1 : (t345 != 0) = false := bne_eq_false_iff_eq.mpr c22
        clear c22
        by_cases c23 : t349 = 0
        ·rw [if_pos c23] at H
         have c23b0 : (t349 == 0) = true := beq_iff_eq.mpr c23
         have c23b1 : (t349 != 0) = false := bne_eq_false_iff_eq.mpr c23
         clear c23
         obtain ⟨y353, hy353⟩ : ∃ y_ : List (S31), y_ = (([] : List (S31))) := ⟨_, rfl⟩
         replace H : (if y353.length + t340.length < 3518437208883 then ((some (y353 ++ t340 : List (S31))).bind fun y356 => (if y356.length + t344.length < 3518437208883 then ((dactylref10_Joined.f kj2 (y356 ++ t344)).bind fun t362 => ((dactylref10_Same.f kj2 t348 t362).bind fun t365 => (some t365))) else (none))) else (none)) = some r := by first | (rw [hy353]; with_reducible exact H) | (have H2_ := (Option.bind_some _ _).symm.trans H; rw [hy353]; with_reducible exact H2_) | (have H2_ := (Option.bind_some _ _).symm.trans H; with_reducible exact H2_) | with_reducible exact H | (rw [hy353]; exact H) | exact H
         have Ny353 := Aside0.mk hy353
         clear hy353
         by_cases c24 : y353.length + t340.length < 3518437208883
         ·rw [if_pos c24] at H
          have LMc24 := Aside0.mk c24
          clear c24
          obtain ⟨y356, hy356⟩ : ∃ y_ : List (S31), y_ = (y353 ++ t340) := ⟨_, rfl⟩
          replace H : (if y356.length + t344.length < 3518437208883 then ((dactylref10_Joined.f kj2 (y356 ++ t344)).bind fun t362 => ((dactylref10_Same.f kj2 t348 t362).bind fun t365 => (some t365))) else (none)) = some r := by first | (rw [hy356]; with_reducible exact H) | (have H2_ := (Option.bind_some _ _).symm.trans H; rw [hy356]; with_reducible exact H2_) | (have H2_ := (Option.bind_some _ _).symm.trans H; with_reducible exact H2_) | with_reducible exact H | (rw [hy356]; exact H) | exact H
          have Ny356 := Aside0.mk hy356
          clear hy356
          by_cases c25 : y356.length + t344.length < 3518437208883
          ·rw [if_pos c25] at H
           have LMc25 := Aside0.mk c25
           clear c25
           obtain ⟨y359, hy359⟩ : ∃ y_ : List (S31), y_ = (y356 ++ t344) := ⟨_, rfl⟩
           replace H : ((dactylref10_Joined.f kj2 y359).bind fun t362 => ((dactylref10_Same.f kj2 t348 t362).bind fun t365 => (some t365))) = some r := by first | (rw [hy359]; with_reducible exact H) | (have H2_ := (Option.bind_some _ _).symm.trans H; rw [hy359]; with_reducible exact H2_) | (have H2_ := (Option.bind_some _ _).symm.trans H; with_reducible exact H2_) | with_reducible exact H | (rw [hy359]; exact H) | exact H
           have Ny359 := Aside0.mk hy359
           clear hy359
           replace H := Option.bind_eq_some_iff.mp H
           obtain ⟨t362, A260, H⟩ := H
           replace H : ((dactylref10_Same.f kj2 t348 t362).bind fun t365 => (some t365)) = some r := H
           have A26 := Aside0.mk A260
           clear A260
           replace H := Option.bind_eq_some_iff.mp H
           obtain ⟨t365, A270, H⟩ := H
           replace H : (some t365) = some r := H
           have A27 := Aside0.mk A270
           clear A270
           obtain rfl := Option.some.inj H
           go_wp2_with (first | ((with_reducible refine gate_callee (f := 15) rfl ?_); refine goesL_ (some 32) rfl rfl Try.func15 (by kernel_rfl) rfl #[.string a0] rfl zl ?_; (with_reducible refine (emit_Parse.calls kj2 a0 t340 t341 _ A15.out).mono ?_); rintro e w28 ⟨v342, rfl, ho0, hb⟩; refine ⟨_, rfl, ?_⟩; have n0_ := Aside0.mk (Kd.R_lower ho0 (below_size zb)); have n1_ := Aside0.mk (below_step zb hb); clear HB; have HO343 := n0_; have HB := n1_; clear n0_ n1_; (try clear hb); (try clear hb2); (try clear hk); (try clear hi); (try clear ho0)) | ((with_reducible refine gate_callee (f := 15) rfl ?_); refine goesL_ (some 37) rfl rfl Try.func15 (by kernel_rfl) rfl #[.string a1] rfl zl ?_; (with_reducible refine (emit_Parse.calls kj2 a1 t344 t345 _ A16.out).mono ?_); rintro e w29 ⟨v346, rfl, ho0, hb⟩; refine ⟨_, rfl, ?_⟩; have n0_ := Aside0.mk (Kd.R_elder' (zk HO343.out) (Kd.R_base ho0) hb); have n1_ := Aside0.mk (Kd.R_lower (Kd.R_new' ho0 (Kd.R_lt (zk HO343.out))) (below_size zb)); have n2_ := Aside0.mk (below_step zb hb); clear HO343; clear HB; have HO343 := n0_; have HO347 := n1_; have HB := n2_; clear n0_ n1_ n2_; (try clear hb); (try clear hb2); (try clear hk); (try clear hi); (try clear ho0)) | ((with_reducible refine gate_callee (f := 15) rfl ?_); refine goesL_ (some 44) rfl rfl Try.func15 (by kernel_rfl) rfl #[.string (a0 ++ a1)] rfl zl ?_; (with_reducible refine (emit_Parse.calls kj2 (a0 ++ a1) t348 t349 _ A18.out).mono ?_); rintro e w30 ⟨v350, rfl, ho0, hb⟩; refine ⟨_, rfl, ?_⟩; have n0_ := Aside0.mk (Kd.R_elder' (zk HO343.out) (Kd.R_base ho0) hb); have n1_ := Aside0.mk (Kd.R_elder' (zk HO347.out) (Kd.R_base ho0) hb); have n2_ := Aside0.mk (Kd.R_lower (Kd.R_new' (Kd.R_new' ho0 (Kd.R_lt (zk HO343.out))) (Kd.R_lt (zk HO347.out))) (below_size zb)); have n3_ := Aside0.mk (below_step zb hb); clear HO343; clear HO347; clear HB; have HO343 := n0_; have HO347 := n1_; have HO351 := n2_; have HB := n3_; clear n0_ n1_ n2_ n3_; (try clear hb); (try clear hb2); (try clear hk); (try clear hi); (try clear ho0)) | ((with_reducible refine gate_callee (f := 8) rfl ?_); refine goesL_ (some 47) rfl rfl Try.func8 (by kernel_rfl) rfl #[] rfl zl ?_; (with_reducible refine (dactyllaw10_awake.calls  true _ A19.out).mono ?_); rintro e w31 ⟨rfl, hb⟩; refine ⟨_, rfl, ?_⟩; have n0_ := Aside0.mk (Kd.R_below (zk HO343.out) hb); have n1_ := Aside0.mk (Kd.R_below (zk HO347.out) hb); have n2_ := Aside0.mk (Kd.R_below (zk HO351.out) hb); have n3_ := Aside0.mk (below_step zb hb); clear HO343; clear HO347; clear HO351; clear HB; have HO343 := n0_; have HO347 := n1_; have HO351 := n2_; have HB := n3_; clear n0_ n1_ n2_ n3_; (try clear hb); (try clear hb2); (try clear hk); (try clear hi)) | ((with_reducible refine gate_dst (N := 62) rfl ?_); (try (refine gate_guard (by rfl) ?_; dsimp only)); refine Kd.R_lit k31 _ 31 ?hg (N := 62) ?hd (xs := ([] : List (S31))) (inner := []) (ok := fun _ => True) (okp := fun _ => True) ?hr ?hp (fun _ hk => hk) trivial (Below.refl _ _) (Nat.le_refl _) (by simp) ?_; (case hd => rfl); (case hg => rfl); (case hr => first | (go_simp; done) | (go_simp; rfl)); (case hp => exact (Reps.none _ _)); intro v354 w32 ho33 hb hg_ hnew_; clear hg_ hnew_; (first | rw [← Ny353.out] at ho33 | (simp only [Int.reduceToNat] at ho33; rw [← Ny353.out] at ho33)); have n0_ := Aside0.mk (Kd.R_elder' (zk HO343.out) (Kd.R_base ho33) hb); have n1_ := Aside0.mk (Kd.R_elder' (zk HO347.out) (Kd.R_base ho33) hb); have n2_ := Aside0.mk (Kd.R_elder' (zk HO351.out) (Kd.R_base ho33) hb); have n3_ := Aside0.mk (Kd.R_lower (Kd.R_new' (Kd.R_new' (Kd.R_new' ho33 (Kd.R_lt (zk HO343.out))) (Kd.R_lt (zk HO347.out))) (Kd.R_lt (zk HO351.out))) (below_size zb)); have n4_ := Aside0.mk (below_step zb hb); clear HO343; clear HO347; clear HO351; clear HB; have HO343 := n0_; have HO347 := n1_; have HO351 := n2_; have HO355 := n3_; have HB := n4_; clear n0_ n1_ n2_ n3_ n4_; clear hb ho33; obtain ⟨Ao35, co35, eo35⟩ := Kd.R_slice HO343.out; subst eo35) | ((with_reducible refine gate_builtin (b := .append) (xs := #[.tmp 62, .tmp 63]) rfl ?_); (try (refine gate_guard (by rfl) ?_; dsimp only)); at_builtin; refine Kd.R_append_rows k31 (w0 := w) w.heap.size rfl (.tmp 62) (.tmp 63) 22 31 (.agg #[(.int .i64 0), (.int .i64 0), (.int .i64 0), (.string ⟨#[]⟩)]) 40 rfl Try.underlying22 info31 rfl (by decide) (by omega) v354 y353 t340 _ _ _ (fun k_ => some k_ ≠ (.slice Ao35 t340.length co35 : Value).ownBlock ∧ some k_ ≠ (v346 : Value).ownBlock ∧ some k_ ≠ (v350 : Value).ownBlock) (fun _ => False) rfl rfl ?aO ?aR (fun _ _ h => h) (fun _ h => h.elim) ?aF ?aB ?aS ?aL ?_; (case aR => repeat (first | exact (Kd.R_reads' HO343.out).2.2 | (with_reducible refine Kd.C_alloc ?_ _) | (with_reducible refine Kd.C_drewN ?_ _) | (with_reducible refine Kd.C_drew ?_))); (case aB => exact zb); (case aF => exact (fun k_ hk => ⟨Kd.fresh' (Kd.R_lt (zk HO343.out)) k_ hk, Kd.fresh' (Kd.R_lt (zk HO347.out)) k_ hk, Kd.fresh' (Kd.R_lt (zk HO351.out)) k_ hk⟩)); (case aO => exact (by (with_reducible repeat (first | apply Kd.R_alloc | apply Kd.R_drewN | apply Kd.R_drew)); exact Kd.R_mono HO355.out (fun _ hk => ⟨hk.1.1.2, ⟨hk.1.2, hk.2⟩⟩))); (case aS => exact (below_size zb)); (case aL => have := LMc24.out; omega); intro v357 w34 ho hb hg hat; rw [← Ny356.out] at ho; have n0_ := Aside0.mk (Kd.R_after (ok := (fun k_ => some k_ ≠ (v346 : Value).ownBlock ∧ some k_ ≠ (v350 : Value).ownBlock)) (by (with_reducible repeat (first | apply Kd.R_alloc | apply Kd.R_drewN | apply Kd.R_drew)); exact Kd.R_mono HO343.out (fun _ hk => ⟨⟨hk.1.1.2, hk.1.2⟩, hk.2⟩)) hg hat); have n1_ := Aside0.mk (Kd.R_after (ok := (fun k_ => some k_ ≠ (.slice Ao35 t340.length co35 : Value).ownBlock ∧ some k_ ≠ (v350 : Value).ownBlock)) (by (with_reducible repeat (first | apply Kd.R_alloc | apply Kd.R_drewN | apply Kd.R_drew)); exact Kd.R_mono HO347.out (fun _ hk => ⟨⟨hk.1.1.2, hk.1.2⟩, hk.2⟩)) hg hat); have n2_ := Aside0.mk (Kd.R_after (ok := (fun k_ => some k_ ≠ (.slice Ao35 t340.length co35 : Value).ownBlock ∧ some k_ ≠ (v346 : Value).ownBlock)) (by (with_reducible repeat (first | apply Kd.R_alloc | apply Kd.R_drewN | apply Kd.R_drew)); exact Kd.R_mono HO351.out (fun _ hk => ⟨⟨hk.1.1.2, hk.1.2⟩, hk.2⟩)) hg hat); have n3_ := Aside0.mk (hb); have n4_ := Aside0.mk (ho); clear HO343; clear HO347; clear HO351; clear HB; clear HO355; have HO343 := n0_; have HO347 := n1_; have HO351 := n2_; have HB := n3_; have HO358 := n4_; clear n0_ n1_ n2_ n3_ n4_; clear ho hb hg hat; obtain ⟨Ao37, co37, eo37⟩ := Kd.R_slice HO347.out; subst eo37) | ((with_reducible refine gate_builtin (b := .append) (xs := #[.tmp 64, .tmp 65]) rfl ?_); (try (refine gate_guard (by rfl) ?_; dsimp only)); at_builtin; refine Kd.R_append_rows k31 (w0 := w) w.heap.size rfl (.tmp 64) (.tmp 65) 22 31 (.agg #[(.int .i64 0), (.int .i64 0), (.int .i64 0), (.string ⟨#[]⟩)]) 40 rfl Try.underlying22 info31 rfl (by decide) (by omega) v357 y356 t344 _ _ _ (fun k_ => some k_ ≠ (.slice Ao35 t340.length co35 : Value).ownBlock ∧ some k_ ≠ (.slice Ao37 t344.length co37 : Value).ownBlock ∧ some k_ ≠ (v350 : Value).ownBlock) (fun _ => False) rfl rfl ?aO ?aR (fun _ _ h => h) (fun _ h => h.elim) ?aF ?aB ?aS ?aL ?_; (case aR => repeat (first | exact (Kd.R_reads' HO347.out).2.2 | (with_reducible refine Kd.C_alloc ?_ _) | (with_reducible refine Kd.C_drewN ?_ _) | (with_reducible refine Kd.C_drew ?_))); (case aB => exact zb); (case aF => exact (fun k_ hk => ⟨Kd.fresh' (Kd.R_lt (zk HO343.out)) k_ hk, Kd.fresh' (Kd.R_lt (zk HO347.out)) k_ hk, Kd.fresh' (Kd.R_lt (zk HO351.out)) k_ hk⟩)); (case aO => exact (zk HO358.out)); (case aS => exact (below_size zb)); (case aL => have := LMc25.out; omega); intro v360 w36 ho hb hg hat; rw [← Ny359.out] at ho; have n0_ := Aside0.mk (Kd.R_after (ok := (fun k_ => some k_ ≠ (.slice Ao37 t344.length co37 : Value).ownBlock ∧ some k_ ≠ (v350 : Value).ownBlock)) (zk HO343.out) hg hat); have n1_ := Aside0.mk (Kd.R_after (ok := (fun k_ => some k_ ≠ (.slice Ao35 t340.length co35 : Value).ownBlock ∧ some k_ ≠ (v350 : Value).ownBlock)) (zk HO347.out) hg hat); have n2_ := Aside0.mk (Kd.R_after (ok := (fun k_ => some k_ ≠ (.slice Ao35 t340.length co35 : Value).ownBlock ∧ some k_ ≠ (.slice Ao37 t344.length co37 : Value).ownBlock)) (zk HO351.out) hg hat); have n3_ := Aside0.mk (hb); have n4_ := Aside0.mk (ho); clear HO343; clear HO347; clear HO351; clear HB; clear HO358; have HO343 := n0_; have HO347 := n1_; have HO351 := n2_; have HB := n3_; have HO361 := n4_; clear n0_ n1_ n2_ n3_ n4_; clear ho hb hg hat; obtain ⟨Ao38, co38, eo38⟩ := Kd.R_slice HO361.out; subst eo38) | (go_at_call 17; (with_reducible refine (dactylref10_Joined.calls kj2 _ _ y359 t362 _ ?side1 ?side2 A26.out).mono ?_); (case side1 => repeat (first | exact (Kd.R_reads' HO361.out).2.2 | (with_reducible refine Kd.C_alloc ?_ _) | (with_reducible refine Kd.C_drewN ?_ _) | (with_reducible refine Kd.C_drew ?_))); (case side2 => exact (Kd.R_reads' HO361.out).2.1); rintro e w39 ⟨v363, rfl, ho0, hb⟩; have n0_ := Aside0.mk (Kd.R_elder' (zk HO343.out) (Kd.R_base ho0) hb); have n1_ := Aside0.mk (Kd.R_elder' (zk HO347.out) (Kd.R_base ho0) hb); have n2_ := Aside0.mk (Kd.R_elder' (zk HO351.out) (Kd.R_base ho0) hb); have n3_ := Aside0.mk (Kd.R_elder' (zk HO361.out) (Kd.R_base ho0) hb); have n4_ := Aside0.mk (Kd.R_lower (Kd.R_new' (Kd.R_new' (Kd.R_new' (Kd.R_new' ho0 (Kd.R_lt (zk HO343.out))) (Kd.R_lt (zk HO347.out))) (Kd.R_lt (zk HO351.out))) (Kd.R_lt (zk HO361.out))) (below_size zb)); have n5_ := Aside0.mk (below_step zb hb); clear HO343; clear HO347; clear HO351; clear HO361; clear HB; have HO343 := n0_; have HO347 := n1_; have HO351 := n2_; have HO361 := n3_; have HO364 := n4_; have HB := n5_; clear n0_ n1_ n2_ n3_ n4_ n5_; (try clear hb); (try clear hb2); (try clear hk); (try clear hi); (try clear ho0); obtain ⟨Ao40, co40, eo40⟩ := Kd.R_slice HO351.out; subst eo40; obtain ⟨Ao41, co41, eo41⟩ := Kd.R_slice HO364.out; subst eo41) | (go_at_call 11; (with_reducible refine (dactylref10_Same.calls kj2 _ _ t348 _ _ t362 t365 _ ?side1 ?side2 ?side3 ?side4 A27.out).mono ?_); (case side1 => repeat (first | exact (Kd.R_reads' HO351.out).2.2 | (with_reducible refine Kd.C_alloc ?_ _) | (with_reducible refine Kd.C_drewN ?_ _) | (with_reducible refine Kd.C_drew ?_))); (case side2 => exact (Kd.R_reads' HO351.out).2.1); (case side3 => repeat (first | exact (Kd.R_reads' HO364.out).2.2 | (with_reducible refine Kd.C_alloc ?_ _) | (with_reducible refine Kd.C_drewN ?_ _) | (with_reducible refine Kd.C_drew ?_))); (case side4 => exact (Kd.R_reads' HO364.out).2.1); rintro e w' ⟨rfl, ⟨nd, rfl⟩⟩))
           go_ret
           exact ⟨zr, zb⟩
          ·rw [if_neg c25] at H
           exact absurd H (by simp)
         ·rw [if_neg c24] at H
          exact absurd H (by simp)
        ·rw [if_neg c23] at H
         have c23b0 : (t349 == 0) = false := beq_eq_false_iff_ne.mpr c23
         have c23b1 : (t349 != 0) = true := bne_iff_ne.mpr c23
         obtain rfl := Option.some.inj H
         go_wp2_with (first | ((with_reducible refine gate_callee (f := 15) rfl ?_); refine goesL_ (some 32) rfl rfl Try.func15 (by kernel_rfl) rfl #[.string a0] rfl zl ?_; (with_reducible refine (emit_Parse.calls kj2 a0 t340 t341 _ A15.out).mono ?_); rintro e w42 ⟨v342, rfl, ho0, hb⟩; refine ⟨_, rfl, ?_⟩; have n0_ := Aside0.mk (Kd.R_lower ho0 (below_size zb)); have n1_ := Aside0.mk (below_step zb hb); clear HB; have HO343 := n0_; have HB := n1_; clear n0_ n1_; (try clear hb); (try clear hb2); (try clear hk); (try clear hi); (try clear ho0)) | ((with_reducible refine gate_callee (f := 15) rfl ?_); refine goesL_ (some 37) rfl rfl Try.func15 (by kernel_rfl) rfl #[.string a1] rfl zl ?_; (with_reducible refine (emit_Parse.calls kj2 a1 t344 t345 _ A16.out).mono ?_); rintro e w43 ⟨v346, rfl, ho0, hb⟩; refine ⟨_, rfl, ?_⟩; have n0_ := Aside0.mk (Kd.R_elder' (zk HO343.out) (Kd.R_base ho0) hb); have n1_ := Aside0.mk (Kd.R_lower (Kd.R_new' ho0 (Kd.R_lt (zk HO343.out))) (below_size zb)); have n2_ := Aside0.mk (below_step zb hb); clear HO343; clear HB; have HO343 := n0_; have HO347 := n1_; have HB := n2_; clear n0_ n1_ n2_; (try clear hb); (try clear hb2); (try clear hk); (try clear hi); (try clear ho0)) | ((with_reducible refine gate_callee (f := 15) rfl ?_); refine goesL_ (some 44) rfl rfl Try.func15 (by kernel_rfl) rfl #[.string (a0 ++ a1)] rfl zl ?_; (with_reducible refine (emit_Parse.calls kj2 (a0 ++ a1) t348 t349 _ A18.out).mono ?_); rintro e w44 ⟨v350, rfl, ho0, hb⟩; refine ⟨_, rfl, ?_⟩; have n0_ := Aside0.mk (Kd.R_elder' (zk HO343.out) (Kd.R_base ho0) hb); have n1_ := Aside0.mk (Kd.R_elder' (zk HO347.out) (Kd.R_base ho0) hb); have n2_ := Aside0.mk (Kd.R_lower (Kd.R_new' (Kd.R_new' ho0 (Kd.R_lt (zk HO343.out))) (Kd.R_lt (zk HO347.out))) (below_size zb)); have n3_ := Aside0.mk (below_step zb hb); clear HO343; clear HO347; clear HB; have HO343 := n0_; have HO347 := n1_; have HO351 := n2_; have HB := n3_; clear n0_ n1_ n2_ n3_; (try clear hb); (try clear hb2); (try clear hk); (try clear hi); (try clear ho0)) | ((with_reducible refine gate_callee (f := 8) rfl ?_); refine goesL_ (some 47) rfl rfl Try.func8 (by kernel_rfl) rfl #[] rfl zl ?_; (with_reducible refine (dactyllaw10_awake.calls  true _ A19.out).mono ?_); rintro e w45 ⟨rfl, hb⟩; refine ⟨_, rfl, ?_⟩; have n0_ := Aside0.mk (Kd.R_below (zk HO343.out) hb); have n1_ := Aside0.mk (Kd.R_below (zk HO347.out) hb); have n2_ := Aside0.mk (Kd.R_below (zk HO351.out) hb); have n3_ := Aside0.mk (below_step zb hb); clear HO343; clear HO347; clear HO351; clear HB; have HO343 := n0_; have HO347 := n1_; have HO351 := n2_; have HB := n3_; clear n0_ n1_ n2_ n3_; (try clear hb); (try clear hb2); (try clear hk); (try clear hi)))
         go_ret
         exact ⟨zr, zb⟩
       ·rw [if_neg c22] at H
        have c22b0 : (t345 == 0) = false := beq_eq_false_iff_ne.mpr c22
        have c22b1 : (t345 != 0) = true := bne_iff_ne.mpr c22
        obtain rfl := Option.some.inj H
        go_wp2_with (first | ((with_reducible refine gate_callee (f := 15) rfl ?_); refine goesL_ (some 32) rfl rfl Try.func15 (by kernel_rfl) rfl #[.string a0] rfl zl ?_; (with_reducible refine (emit_Parse.calls kj2 a0 t340 t341 _ A15.out).mono ?_); rintro e w46 ⟨v342, rfl, ho0, hb⟩; refine ⟨_, rfl, ?_⟩; have n0_ := Aside0.mk (Kd.R_lower ho0 (below_size zb)); have n1_ := Aside0.mk (below_step zb hb); clear HB; have HO343 := n0_; have HB := n1_; clear n0_ n1_; (try clear hb); (try clear hb2); (try clear hk); (try clear hi); (try clear ho0)) | ((with_reducible refine gate_callee (f := 15) rfl ?_); refine goesL_ (some 37) rfl rfl Try.func15 (by kernel_rfl) rfl #[.string a1] rfl zl ?_; (with_reducible refine (emit_Parse.calls kj2 a1 t344 t345 _ A16.out).mono ?_); rintro e w47 ⟨v346, rfl, ho0, hb⟩; refine ⟨_, rfl, ?_⟩; have n0_ := Aside0.mk (Kd.R_elder' (zk HO343.out) (Kd.R_base ho0) hb); have n1_ := Aside0.mk (Kd.R_lower (Kd.R_new' ho0 (Kd.R_lt (zk HO343.out))) (below_size zb)); have n2_ := Aside0.mk (below_step zb hb); clear HO343; clear HB; have HO343 := n0_; have HO347 := n1_; have HB := n2_; clear n0_ n1_ n2_; (try clear hb); (try clear hb2); (try clear hk); (try clear hi); (try clear ho0)) | ((with_reducible refine gate_callee (f := 15) rfl ?_); refine goesL_ (some 44) rfl rfl Try.func15 (by kernel_rfl) rfl #[.string (a0 ++ a1)] rfl zl ?_; (with_reducible refine (emit_Parse.calls kj2 (a0 ++ a1) t348 t349 _ A18.out).mono ?_); rintro e w48 ⟨v350, rfl, ho0, hb⟩; refine ⟨_, rfl, ?_⟩; have n0_ := Aside0.mk (Kd.R_elder' (zk HO343.out) (Kd.R_base ho0) hb); have n1_ := Aside0.mk (Kd.R_elder' (zk HO347.out) (Kd.R_base ho0) hb); have n2_ := Aside0.mk (Kd.R_lower (Kd.R_new' (Kd.R_new' ho0 (Kd.R_lt (zk HO343.out))) (Kd.R_lt (zk HO347.out))) (below_size zb)); have n3_ := Aside0.mk (below_step zb hb); clear HO343; clear HO347; clear HB; have HO343 := n0_; have HO347 := n1_; have HO351 := n2_; have HB := n3_; clear n0_ n1_ n2_ n3_; (try clear hb); (try clear hb2); (try clear hk); (try clear hi); (try clear ho0)) | ((with_reducible refine gate_callee (f := 8) rfl ?_); refine goesL_ (some 47) rfl rfl Try.func8 (by kernel_rfl) rfl #[] rfl zl ?_; (with_reducible refine (dactyllaw10_awake.calls  true _ A19.out).mono ?_); rintro e w49 ⟨rfl, hb⟩; refine ⟨_, rfl, ?_⟩; have n0_ := Aside0.mk (Kd.R_below (zk HO343.out) hb); have n1_ := Aside0.mk (Kd.R_below (zk HO347.out) hb); have n2_ := Aside0.mk (Kd.R_below (zk HO351.out) hb); have n3_ := Aside0.mk (below_step zb hb); clear HO343; clear HO347; clear HO351; clear HB; have HO343 := n0_; have HO347 := n1_; have HO351 := n2_; have HB := n3_; clear n0_ n1_ n2_ n3_; (try clear hb); (try clear hb2); (try clear hk); (try clear hi)))
        go_ret
        exact ⟨zr, zb⟩
      ·rw [if_neg c21] at H
       have c21b0 : (t341 == 0) = false := beq_eq_false_iff_ne.mpr c21
       have c21b1 : (t341 != 0) = true := bne_iff_ne.mpr c21
       obtain rfl := Option.some.inj H
       go_wp2_with (first | ((with_reducible refine gate_callee (f := 15) rfl ?_); refine goesL_ (some 32) rfl rfl Try.func15 (by kernel_rfl) rfl #[.string a0] rfl zl ?_; (with_reducible refine (emit_Parse.calls kj2 a0 t340 t341 _ A15.out).mono ?_); rintro e w50 ⟨v342, rfl, ho0, hb⟩; refine ⟨_, rfl, ?_⟩; have n0_ := Aside0.mk (Kd.R_lower ho0 (below_size zb)); have n1_ := Aside0.mk (below_step zb hb); clear HB; have HO343 := n0_; have HB := n1_; clear n0_ n1_; (try clear hb); (try clear hb2); (try clear hk); (try clear hi); (try clear ho0)) | ((with_reducible refine gate_callee (f := 15) rfl ?_); refine goesL_ (some 37) rfl rfl Try.func15 (by kernel_rfl) rfl #[.string a1] rfl zl ?_; (with_reducible refine (emit_Parse.calls kj2 a1 t344 t345 _ A16.out).mono ?_); rintro e w51 ⟨v346, rfl, ho0, hb⟩; refine ⟨_, rfl, ?_⟩; have n0_ := Aside0.mk (Kd.R_elder' (zk HO343.out) (Kd.R_base ho0) hb); have n1_ := Aside0.mk (Kd.R_lower (Kd.R_new' ho0 (Kd.R_lt (zk HO343.out))) (below_size zb)); have n2_ := Aside0.mk (below_step zb hb); clear HO343; clear HB; have HO343 := n0_; have HO347 := n1_; have HB := n2_; clear n0_ n1_ n2_; (try clear hb); (try clear hb2); (try clear hk); (try clear hi); (try clear ho0)) | ((with_reducible refine gate_callee (f := 15) rfl ?_); refine goesL_ (some 44) rfl rfl Try.func15 (by kernel_rfl) rfl #[.string (a0 ++ a1)] rfl zl ?_; (with_reducible refine (emit_Parse.calls kj2 (a0 ++ a1) t348 t349 _ A18.out).mono ?_); rintro e w52 ⟨v350, rfl, ho0, hb⟩; refine ⟨_, rfl, ?_⟩; have n0_ := Aside0.mk (Kd.R_elder' (zk HO343.out) (Kd.R_base ho0) hb); have n1_ := Aside0.mk (Kd.R_elder' (zk HO347.out) (Kd.R_base ho0) hb); have n2_ := Aside0.mk (Kd.R_lower (Kd.R_new' (Kd.R_new' ho0 (Kd.R_lt (zk HO343.out))) (Kd.R_lt (zk HO347.out))) (below_size zb)); have n3_ := Aside0.mk (below_step zb hb); clear HO343; clear HO347; clear HB; have HO343 := n0_; have HO347 := n1_; have HO351 := n2_; have HB := n3_; clear n0_ n1_ n2_ n3_; (try clear hb); (try clear hb2); (try clear hk); (try clear hi); (try clear ho0)) | ((with_reducible refine gate_callee (f := 8) rfl ?_); refine goesL_ (some 47) rfl rfl Try.func8 (by kernel_rfl) rfl #[] rfl zl ?_; (with_reducible refine (dactyllaw10_awake.calls  true _ A19.out).mono ?_); rintro e w53 ⟨rfl, hb⟩; refine ⟨_, rfl, ?_⟩; have n0_ := Aside0.mk (Kd.R_below (zk HO343.out) hb); have n1_ := Aside0.mk (Kd.R_below (zk HO347.out) hb); have n2_ := Aside0.mk (Kd.R_below (zk HO351.out) hb); have n3_ := Aside0.mk (below_step zb hb); clear HO343; clear HO347; clear HO351; clear HB; have HO343 := n0_; have HO347 := n1_; have HO351 := n2_; have HB := n3_; clear n0_ n1_ n2_ n3_; (try clear hb); (try clear hb2); (try clear hk); (try clear hi)))
       go_ret
       exact ⟨zr, zb⟩
     ·replace c20 := Bool.eq_false_iff.mpr c20
      subst c20
      have H1 : (some false) = some r := by rw [if_neg (show ¬ (false = true) by decide)] at H; exact H
      clear H
      have H := H1
      clear H1
      obtain rfl := Option.some.inj H
      go_wp2_with (first | ((with_reducible refine gate_callee (f := 15) rfl ?_); refine goesL_ (some 32) rfl rfl Try.func15 (by kernel_rfl) rfl #[.string a0] rfl zl ?_; (with_reducible refine (emit_Parse.calls kj2 a0 t340 t341 _ A15.out).mono ?_); rintro e w54 ⟨v342, rfl, ho0, hb⟩; refine ⟨_, rfl, ?_⟩; have n0_ := Aside0.mk (Kd.R_lower ho0 (below_size zb)); have n1_ := Aside0.mk (below_step zb hb); clear HB; have HO343 := n0_; have HB := n1_; clear n0_ n1_; (try clear hb); (try clear hb2); (try clear hk); (try clear hi); (try clear ho0)) | ((with_reducible refine gate_callee (f := 15) rfl ?_); refine goesL_ (some 37) rfl rfl Try.func15 (by kernel_rfl) rfl #[.string a1] rfl zl ?_; (with_reducible refine (emit_Parse.calls kj2 a1 t344 t345 _ A16.out).mono ?_); rintro e w55 ⟨v346, rfl, ho0, hb⟩; refine ⟨_, rfl, ?_⟩; have n0_ := Aside0.mk (Kd.R_elder' (zk HO343.out) (Kd.R_base ho0) hb); have n1_ := Aside0.mk (Kd.R_lower (Kd.R_new' ho0 (Kd.R_lt (zk HO343.out))) (below_size zb)); have n2_ := Aside0.mk (below_step zb hb); clear HO343; clear HB; have HO343 := n0_; have HO347 := n1_; have HB := n2_; clear n0_ n1_ n2_; (try clear hb); (try clear hb2); (try clear hk); (try clear hi); (try clear ho0)) | ((with_reducible refine gate_callee (f := 15) rfl ?_); refine goesL_ (some 44) rfl rfl Try.func15 (by kernel_rfl) rfl #[.string (a0 ++ a1)] rfl zl ?_; (with_reducible refine (emit_Parse.calls kj2 (a0 ++ a1) t348 t349 _ A18.out).mono ?_); rintro e w56 ⟨v350, rfl, ho0, hb⟩; refine ⟨_, rfl, ?_⟩; have n0_ := Aside0.mk (Kd.R_elder' (zk HO343.out) (Kd.R_base ho0) hb); have n1_ := Aside0.mk (Kd.R_elder' (zk HO347.out) (Kd.R_base ho0) hb); have n2_ := Aside0.mk (Kd.R_lower (Kd.R_new' (Kd.R_new' ho0 (Kd.R_lt (zk HO343.out))) (Kd.R_lt (zk HO347.out))) (below_size zb)); have n3_ := Aside0.mk (below_step zb hb); clear HO343; clear HO347; clear HB; have HO343 := n0_; have HO347 := n1_; have HO351 := n2_; have HB := n3_; clear n0_ n1_ n2_ n3_; (try clear hb); (try clear hb2); (try clear hk); (try clear hi); (try clear ho0)) | ((with_reducible refine gate_callee (f := 8) rfl ?_); refine goesL_ (some 47) rfl rfl Try.func8 (by kernel_rfl) rfl #[] rfl zl ?_; (with_reducible refine (dactyllaw10_awake.calls  false _ A19.out).mono ?_); rintro e w57 ⟨rfl, hb⟩; refine ⟨_, rfl, ?_⟩; have n0_ := Aside0.mk (Kd.R_below (zk HO343.out) hb); have n1_ := Aside0.mk (Kd.R_below (zk HO347.out) hb); have n2_ := Aside0.mk (Kd.R_below (zk HO351.out) hb); have n3_ := Aside0.mk (below_step zb hb); clear HO343; clear HO347; clear HO351; clear HB; have HO343 := n0_; have HO347 := n1_; have HO351 := n2_; have HB := n3_; clear n0_ n1_ n2_ n3_; (try clear hb); (try clear hb2); (try clear hk); (try clear hi)))
      go_ret
      exact ⟨zr, zb⟩
    ·rw [if_neg c17] at H
     exact absurd H (by simp)

/-- THE ONE PURE STATEMENT of dactyllaw10_EmitCloses: yours. -/
def dactyllaw10_EmitCloses.Pure : Prop := ∀ (a0 : ByteArray) (a1 : ByteArray), a0.size ≤ 140737488351232 → a1.size ≤ 140737488351232 → ∃ k, dactyllaw10_EmitCloses.f k a0 a1 = some true
theorem dactyllaw10_EmitCloses.walk (P : dactyllaw10_EmitCloses.Pure) (a0 : ByteArray) (a1 : ByteArray) (w : World) (w0 : a0.size ≤ 140737488351232) (w1 : a1.size ≤ 140737488351232) :
  Calls Try.prog 6 #[.string a0, .string a1] w fun e w' => e = .returned (.bool true) ∧ Below w.heap.size w w' := by
 obtain ⟨k, h⟩ := P a0 a1 w0 w1
 refine (dactyllaw10_EmitCloses.calls k a0 a1 true w h).mono ?_
 rintro e w' ⟨rfl, hd⟩
 exact ⟨rfl, hd⟩

end Go.Proofs.Ytddkmhkglmcihaa.PAll
