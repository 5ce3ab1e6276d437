-- Printed for this claim by the session's own program (wip/tool/hprint.py) over the kit's print; some functions' texts are the session's own.
import Derived.Test.YtddkmhkglmcihaaPAllx0
import Derived.Test.YtddkmhkglmcihaaPAllx2
import Derived.Test.YtddkmhkglmcihaaPAllx4
import Derived.Test.YtddkmhkglmcihaaPAllx5
import Derived.Test.YtddkmhkglmcihaaPAllx6
import Derived.Test.YtddkmhkglmcihaaPAllx8
import Derived.Test.YtddkmhkglmcihaaPAllx9
import Derived.Test.YtddkmhkglmcihaaPAllx12
import Derived.Test.YtddkmhkglmcihaaPAllx13
import Derived.Test.YtddkmhkglmcihaaPAllx14
import Derived.Test.YtddkmhkglmcihaaPAllx15
namespace Go.Proofs.Ytddkmhkglmcihaa.PAll
open Go.RowKit Go.Proofs.YtddkmhkglmcihaaW.PrintWords Go.Proofs.YtddkmhkglmcihaaW.PrintLast Go.Proofs.YtddkmhkglmcihaaW.PrintMore
attribute [local go_sem] max2_int min2_int max_two min_two max_three min_three max_four min_four   -- for this text's walks alone
set_option linter.unusedVariables false
set_option linter.unusedSimpArgs false

/-! ### dactyllaw10_EmitTexts: function 3 -/
mutual
def dactyllaw10_EmitTexts.j0 : Nat → List (S31) → List (S31) → Bool → Option (Bool)
 | 0, _, _, _ => none
 | k + 1, x0, x1, x17 => if x17 = true then ((dactyllaw10_awake.f).bind fun t335 => (some t335)) else ((emit_Text.f k x0).bind fun bt336 => ((emit_Same.f k x0 x1).bind fun t338 => ((dactylref10_Same.f k x0 x1).bind fun t339 => (if (t338 != t339) = true then (some false) else (dactyllaw10_EmitTexts.l0 k x0 bt336.1 bt336.2 0)))))
def dactyllaw10_EmitTexts.l0 : Nat → List (S31) → ByteArray → Int → Int → Option (Bool)
 | 0, _, _, _, _ => none
 | k + 1, x0, x5, x6, x7 => if x7 < (x0.length : Int) then (if 0 ≤ x7 then ((emit_Check.f ((rd_T31 x0 x7).f0) ((rd_T31 x0 x7).f1) ((rd_T31 x0 x7).f2) ((rd_T31 x0 x7).f3)).bind fun t341 => ((dactylref10_May.f k ((rd_T31 x0 x7).f0) ((rd_T31 x0 x7).f1) ((rd_T31 x0 x7).f2) ((rd_T31 x0 x7).f3)).bind fun t343 => (if ((t341 == 0) != t343) = true then (some false) else (dactyllaw10_EmitTexts.l0 k x0 x5 x6 (wrap64 (x7 + 1)))))) else (none)) else ((dactylref10_All.f k x0).bind fun t344 => (if t344 = true then ((emit_Parse.f k x5).bind fun bt346 => ((dactyllaw10_awake.f).bind fun t350 => (if t350 = true then (if x6 = 0 then ((dactylref10_Text.f k x0).bind fun t351 => (if x5.toList = t351.toList then (if bt346.2 = 0 then ((dactylref10_Joined.f k x0).bind fun t352 => ((dactylref10_Same.f k bt346.1 t352).bind fun t355 => (if t355 = true then ((emit_Skeleton.f k x0).bind fun t356 => ((dactylref10_Skeleton.f k x0).bind fun t359 => ((dactylref10_Same.f k t356 t359).bind fun t362 => (some t362)))) else (some false)))) else (some false)) else (some false))) else (some false)) else (some false)))) else ((dactyllaw10_awake.f).bind fun t345 => (if t345 = true then (if x5.toList = ([] : List UInt8) then (some (x6 == 2)) else (some false)) else (some false)))))
end
def dactyllaw10_EmitTexts.f (k : Nat) (l0 : List (S31)) (l1 : List (S31)) : Option (Bool) := (dactyllaw10_Light.f k l0).bind fun t333 => (if t333 = true then ((dactyllaw10_Light.f k l1).bind fun t334 => (dactyllaw10_EmitTexts.j0 k l0 l1 (!t334))) else (dactyllaw10_EmitTexts.j0 k l0 l1 true))
theorem dactyllaw10_EmitTexts.mono_l : ∀ k, (∀ y0 y1 y2, LeO (dactyllaw10_EmitTexts.j0 k y0 y1 y2) (dactyllaw10_EmitTexts.j0 (k + 1) y0 y1 y2)) ∧ (∀ y0 y1 y2 y3, LeO (dactyllaw10_EmitTexts.l0 k y0 y1 y2 y3) (dactyllaw10_EmitTexts.l0 (k + 1) y0 y1 y2 y3))
 | 0 => ⟨fun _ _ _ r h => by simp [dactyllaw10_EmitTexts.j0] at h, fun _ _ _ _ r h => by simp [dactyllaw10_EmitTexts.l0] at h⟩
 | k + 1 => by
  obtain ⟨ih0, ih1⟩ := dactyllaw10_EmitTexts.mono_l k
  refine ⟨?_, ?_⟩
  ·intro y0 y1 y2
   unfold dactyllaw10_EmitTexts.j0
   repeat' first
   | (with_reducible exact ih0 _ _ _)
   | (with_reducible exact ih1 _ _ _ _)
   | (with_reducible exact dactyllaw10_Light.mono _ _)
   | (with_reducible exact dactylref10_All.mono _ _)
   | (with_reducible exact dactylref10_Joined.mono _ _)
   | (with_reducible exact dactylref10_May.mono _ _ _ _ _)
   | (with_reducible exact dactylref10_Same.mono _ _ _)
   | (with_reducible exact dactylref10_Skeleton.mono _ _)
   | (with_reducible exact dactylref10_Text.mono _ _)
   | (with_reducible exact emit_Parse.mono _ _)
   | (with_reducible exact emit_Same.mono _ _ _)
   | (with_reducible exact emit_Skeleton.mono _ _)
   | (with_reducible exact emit_Text.mono _ _)
   | (with_reducible exact LeO.refl _)
   | (with_reducible exact LeO.none _)
   | (with_reducible refine LeO.ite ?_ ?_)
   | (with_reducible refine LeO.bind ?_ (fun _ => ?_))
   | exact ih0 _ _ _
   | exact ih1 _ _ _ _
   | exact dactyllaw10_Light.mono _ _
   | exact dactylref10_All.mono _ _
   | exact dactylref10_Joined.mono _ _
   | exact dactylref10_May.mono _ _ _ _ _
   | exact dactylref10_Same.mono _ _ _
   | exact dactylref10_Skeleton.mono _ _
   | exact dactylref10_Text.mono _ _
   | exact emit_Parse.mono _ _
   | exact emit_Same.mono _ _ _
   | exact emit_Skeleton.mono _ _
   | exact emit_Text.mono _ _
   | exact LeO.none _
   | refine LeO.ite ?_ ?_
   | refine LeO.bind ?_ (fun _ => ?_)
  ·intro y0 y1 y2 y3
   unfold dactyllaw10_EmitTexts.l0
   repeat' first
   | (with_reducible exact ih0 _ _ _)
   | (with_reducible exact ih1 _ _ _ _)
   | (with_reducible exact dactyllaw10_Light.mono _ _)
   | (with_reducible exact dactylref10_All.mono _ _)
   | (with_reducible exact dactylref10_Joined.mono _ _)
   | (with_reducible exact dactylref10_May.mono _ _ _ _ _)
   | (with_reducible exact dactylref10_Same.mono _ _ _)
   | (with_reducible exact dactylref10_Skeleton.mono _ _)
   | (with_reducible exact dactylref10_Text.mono _ _)
   | (with_reducible exact emit_Parse.mono _ _)
   | (with_reducible exact emit_Same.mono _ _ _)
   | (with_reducible exact emit_Skeleton.mono _ _)
   | (with_reducible exact emit_Text.mono _ _)
   | (with_reducible exact LeO.refl _)
   | (with_reducible exact LeO.none _)
   | (with_reducible refine LeO.ite ?_ ?_)
   | (with_reducible refine LeO.bind ?_ (fun _ => ?_))
   | exact ih0 _ _ _
   | exact ih1 _ _ _ _
   | exact dactyllaw10_Light.mono _ _
   | exact dactylref10_All.mono _ _
   | exact dactylref10_Joined.mono _ _
   | exact dactylref10_May.mono _ _ _ _ _
   | exact dactylref10_Same.mono _ _ _
   | exact dactylref10_Skeleton.mono _ _
   | exact dactylref10_Text.mono _ _
   | exact emit_Parse.mono _ _
   | exact emit_Same.mono _ _ _
   | exact emit_Skeleton.mono _ _
   | exact emit_Text.mono _ _
   | exact LeO.none _
   | refine LeO.ite ?_ ?_
   | refine LeO.bind ?_ (fun _ => ?_)
theorem dactyllaw10_EmitTexts.mono : ∀ a0 a1 k, LeO (dactyllaw10_EmitTexts.f k a0 a1) (dactyllaw10_EmitTexts.f (k + 1) a0 a1) := by
 intro a0 a1 k
 obtain ⟨ih0, ih1⟩ := dactyllaw10_EmitTexts.mono_l k
 unfold dactyllaw10_EmitTexts.f
 repeat' first
   | (with_reducible exact ih0 _ _ _)
   | (with_reducible exact ih1 _ _ _ _)
   | (with_reducible exact dactyllaw10_Light.mono _ _)
   | (with_reducible exact dactylref10_All.mono _ _)
   | (with_reducible exact dactylref10_Joined.mono _ _)
   | (with_reducible exact dactylref10_May.mono _ _ _ _ _)
   | (with_reducible exact dactylref10_Same.mono _ _ _)
   | (with_reducible exact dactylref10_Skeleton.mono _ _)
   | (with_reducible exact dactylref10_Text.mono _ _)
   | (with_reducible exact emit_Parse.mono _ _)
   | (with_reducible exact emit_Same.mono _ _ _)
   | (with_reducible exact emit_Skeleton.mono _ _)
   | (with_reducible exact emit_Text.mono _ _)
   | (with_reducible exact LeO.refl _)
   | (with_reducible exact LeO.none _)
   | (with_reducible refine LeO.ite ?_ ?_)
   | (with_reducible refine LeO.bind ?_ (fun _ => ?_))
   | exact ih0 _ _ _
   | exact ih1 _ _ _ _
   | exact dactyllaw10_Light.mono _ _
   | exact dactylref10_All.mono _ _
   | exact dactylref10_Joined.mono _ _
   | exact dactylref10_May.mono _ _ _ _ _
   | exact dactylref10_Same.mono _ _ _
   | exact dactylref10_Skeleton.mono _ _
   | exact dactylref10_Text.mono _ _
   | exact emit_Parse.mono _ _
   | exact emit_Same.mono _ _ _
   | exact emit_Skeleton.mono _ _
   | exact emit_Text.mono _ _
   | exact LeO.none _
   | refine LeO.ite ?_ ?_
   | refine LeO.bind ?_ (fun _ => ?_)
def dactyllaw10_EmitTexts.T9 : Bool × List (List Nat × List Nat) := (true, [([], []), ([], []), ([0, 1], [0, 1]), ([2], [2]), ([3], [3]), ([4], [4]), ([], []), ([], []), ([6, 7], [6, 7]), ([8], [8]), ([9, 4], [9]), ([5, 10], [5, 10])])
def dactyllaw10_EmitTexts.B9 : List Nat := [0, 0, 3, 7, 15, 31, 0, 0, 192, 448, 991, 2047]
theorem dactyllaw10_EmitTexts.tab9 : rtab .any (opsOf Try.f3 9) = dactyllaw10_EmitTexts.T9 := by kernel_rfl
theorem dactyllaw10_EmitTexts.bits9 : waitsOk dactyllaw10_EmitTexts.T9.2 dactyllaw10_EmitTexts.B9 = true := by kernel_rfl
set_option maxHeartbeats 8000000 in
set_option maxRecDepth 100000 in
theorem dactyllaw10_EmitTexts.calls (k : Nat) (A0 : Option Addr) (c0 : Nat) (l0 : List (S31)) (A1 : Option Addr) (c1 : Nat) (l1 : List (S31)) (r : Bool) (w : World) (hr0 : Kd.C k31 w A0 l0.length l0) (hc0 : l0.length ≤ c0) (hr1 : Kd.C k31 w A1 l1.length l1) (hc1 : l1.length ≤ c1) (h : dactyllaw10_EmitTexts.f k l0 l1 = some r) :
  Calls Try.prog 3 #[.slice A0 l0.length c0, .slice A1 l1.length c1] w fun e w' => e = .returned (.bool r) ∧ Below w.heap.size w w' := by
 have hu31 := Try.underlying31
 have HR0 := Aside0.mk hr0
 have HC0 := Aside0.mk hc0
 clear hr0 hc0
 have HR1 := Aside0.mk hr1
 have HC1 := Aside0.mk hc1
 clear hr1 hc1
 have HB := Aside0.mk (Below.refl w.heap.size w)
 have H : ((dactyllaw10_Light.f k l0).bind fun t333 => (if t333 = true then ((dactyllaw10_Light.f k l1).bind fun t334 => (dactyllaw10_EmitTexts.j0 k l0 l1 (!t334))) else (dactyllaw10_EmitTexts.j0 k l0 l1 true))) = some r := h
 clear h
 have HC3 := Aside0.mk H
 clear H
 go_enter Try.func3, Try.ntmps3
 go_upto_region 1 with (fail)
 go_cut [17] (fun v17 wc => ∃ (kq : Nat) (x17_2 : Bool), v17 = .bool x17_2 ∧ Aside0 (dactyllaw10_EmitTexts.j0 kq l0 l1 x17_2 = some r) ∧ Aside0 (kq ≤ k) ∧ Aside0 (Below w.heap.size w wc))
 case first =>
  have H := HC3.out
  clear HC3
  replace H := Option.bind_eq_some_iff.mp H
  obtain ⟨t333, A40, H⟩ := H
  replace H : (if t333 = true then ((dactyllaw10_Light.f k l1).bind fun t334 => (dactyllaw10_EmitTexts.j0 k l0 l1 (!t334))) else (dactyllaw10_EmitTexts.j0 k l0 l1 true)) = some r := H
  have A4 := Aside0.mk A40
  clear A40
  by_cases c5 : t333 = true
  ·subst c5
   have H1 : ((dactyllaw10_Light.f k l1).bind fun t334 => (dactyllaw10_EmitTexts.j0 k l0 l1 (!t334))) = some r := by rw [if_pos rfl] at H; exact H
   clear H
   have H := H1
   clear H1
   replace H := Option.bind_eq_some_iff.mp H
   obtain ⟨t334, A60, H⟩ := H
   replace H : (dactyllaw10_EmitTexts.j0 k l0 l1 (!t334)) = some r := H
   have A6 := Aside0.mk A60
   clear A60
   have H' := Aside0.mk H
   clear H
   go_wp2_with (first | ((with_reducible refine gate_callee (f := 7) rfl ?_); refine goesL_ (some 11) rfl rfl Try.func7 (by kernel_rfl) rfl #[.slice A0 l0.length c0] rfl zl ?_; (with_reducible refine (dactyllaw10_Light.calls k _ _ l0 true _ ?side1 ?side2 A4.out).mono ?_); (case side1 => repeat (first | exact (Kd.C_below HR0.out HB.out) | (with_reducible refine Kd.C_alloc ?_ _) | (with_reducible refine Kd.C_drewN ?_ _) | (with_reducible refine Kd.C_drew ?_))); (case side2 => exact HC0.out); rintro e w' ⟨rfl, ⟨nd, rfl⟩⟩; refine ⟨_, rfl, ?_⟩) | (go_at_call 7; (with_reducible refine (dactyllaw10_Light.calls k _ _ l1 t334 _ ?side1 ?side2 A6.out).mono ?_); (case side1 => repeat (first | exact (Kd.C_below HR1.out zb) | (with_reducible refine Kd.C_alloc ?_ _) | (with_reducible refine Kd.C_drewN ?_ _) | (with_reducible refine Kd.C_drew ?_))); (case side2 => exact HC1.out); rintro e w' ⟨rfl, ⟨nd, rfl⟩⟩))
   go_meet
   case rel => exact ⟨_, (!t334), (by first | rfl | (simp; done) | (simp [*]; done)), H', ⟨by first | omega | exact Nat.le_refl _⟩, ⟨by repeat (first | (with_reducible first | exact HB.out | apply below_alloc | apply pw_below_drewN | apply below_drew1) | exact HB.out)⟩⟩
  ·replace c5 := Bool.eq_false_iff.mpr c5
   subst c5
   have H1 : (dactyllaw10_EmitTexts.j0 k l0 l1 true) = some r := by rw [if_neg (show ¬ (false = true) by decide)] at H; exact H
   clear H
   have H := H1
   clear H1
   have H' := Aside0.mk H
   clear H
   go_wp2_with (first | ((with_reducible refine gate_callee (f := 7) rfl ?_); refine goesL_ (some 11) rfl rfl Try.func7 (by kernel_rfl) rfl #[.slice A0 l0.length c0] rfl zl ?_; (with_reducible refine (dactyllaw10_Light.calls k _ _ l0 false _ ?side1 ?side2 A4.out).mono ?_); (case side1 => repeat (first | exact (Kd.C_below HR0.out HB.out) | (with_reducible refine Kd.C_alloc ?_ _) | (with_reducible refine Kd.C_drewN ?_ _) | (with_reducible refine Kd.C_drew ?_))); (case side2 => exact HC0.out); rintro e w' ⟨rfl, ⟨nd, rfl⟩⟩; refine ⟨_, rfl, ?_⟩))
   go_meet
   case rel => exact ⟨_, (true), (by first | rfl | (simp; done) | (simp [*]; done)), H', ⟨by first | omega | exact Nat.le_refl _⟩, ⟨by repeat (first | (with_reducible first | exact HB.out | apply below_alloc | apply pw_below_drewN | apply below_drew1) | exact HB.out)⟩⟩
 case rest =>
  clear HC3
  try clear c1
  try clear p2
  try clear c3
  try clear c5
  obtain ⟨kq, x17_2, rfl, HA, HJ2, HB⟩ := hcut
  cases kq with
  | zero => exact absurd HA.out (by simp [dactyllaw10_EmitTexts.j0])
  | succ kj2 =>
   have H := HA.out
   clear HA
   simp only [dactyllaw10_EmitTexts.j0] at H
   by_cases c7 : x17_2 = true
   ·subst c7
    have H1 : ((dactyllaw10_awake.f).bind fun t335 => (some t335)) = some r := by rw [if_pos rfl] at H; exact H
    clear H
    have H := H1
    clear H1
    replace H := Option.bind_eq_some_iff.mp H
    obtain ⟨t335, A80, H⟩ := H
    replace H : (some t335) = some r := H
    have A8 := Aside0.mk A80
    clear A80
    obtain rfl := Option.some.inj H
    go_wp2_with (first | ((with_reducible refine gate_callee (f := 8) rfl ?_); refine goesL_ (some 18) rfl rfl Try.func8 (by kernel_rfl) rfl #[] rfl zl ?_; (with_reducible refine (dactyllaw10_awake.calls  t335 _ A8.out).mono ?_); rintro e w9 ⟨rfl, hb⟩; refine ⟨_, rfl, ?_⟩; have n0_ := Aside0.mk (below_step zb hb); clear HB; have HB := n0_; clear n0_; (try clear hb); (try clear hb2); (try clear hk); (try clear hi)))
    go_ret
    exact ⟨zr, zb⟩
   ·replace c7 := Bool.eq_false_iff.mpr c7
    subst c7
    have H1 : ((emit_Text.f kj2 l0).bind fun bt336 => ((emit_Same.f kj2 l0 l1).bind fun t338 => ((dactylref10_Same.f kj2 l0 l1).bind fun t339 => (if (t338 != t339) = true then (some false) else (dactyllaw10_EmitTexts.l0 kj2 l0 bt336.1 bt336.2 0))))) = some r := by rw [if_neg (show ¬ (false = true) by decide)] at H; exact H
    clear H
    have H := H1
    clear H1
    replace H := Option.bind_eq_some_iff.mp H
    obtain ⟨⟨t336, t337⟩, A100, H⟩ := H
    replace H : ((emit_Same.f kj2 l0 l1).bind fun t338 => ((dactylref10_Same.f kj2 l0 l1).bind fun t339 => (if (t338 != t339) = true then (some false) else (dactyllaw10_EmitTexts.l0 kj2 l0 t336 t337 0)))) = some r := H
    have A10 := Aside0.mk A100
    clear A100
    replace H := Option.bind_eq_some_iff.mp H
    obtain ⟨t338, A110, H⟩ := H
    replace H : ((dactylref10_Same.f kj2 l0 l1).bind fun t339 => (if (t338 != t339) = true then (some false) else (dactyllaw10_EmitTexts.l0 kj2 l0 t336 t337 0))) = some r := H
    have A11 := Aside0.mk A110
    clear A110
    replace H := Option.bind_eq_some_iff.mp H
    obtain ⟨t339, A120, H⟩ := H
    replace H : (if (t338 != t339) = true then (some false) else (dactyllaw10_EmitTexts.l0 kj2 l0 t336 t337 0)) = some r := H
    have A12 := Aside0.mk A120
    clear A120
    by_cases c13 : (t338 != t339) = true
    ·rw [if_pos c13] at H
     have c13b0 : (t338 != t339) = true := c13
     (try (have c13b1 : decide (t338 = t339) = false := by simpa using c13))
     (try (have c13b2 : (t338 == t339) = false := by simpa using c13))
     (try (have c13b3 : ¬ (t338 = t339) := by simpa using c13))
     clear c13
     obtain rfl := Option.some.inj H
     go_wp2_with (first | ((with_reducible refine gate_callee (f := 9) rfl ?_); refine goesL_ (some 21) rfl rfl Try.func9 (by kernel_rfl) rfl #[.slice A0 l0.length c0] rfl zl ?_; (with_reducible refine (emit_Text.calls kj2 _ _ l0 t336 t337 _ ?side1 ?side2 A10.out).mono ?_); (case side1 => repeat (first | exact (Kd.C_below HR0.out HB.out) | (with_reducible refine Kd.C_alloc ?_ _) | (with_reducible refine Kd.C_drewN ?_ _) | (with_reducible refine Kd.C_drew ?_))); (case side2 => exact HC0.out); rintro e w14 ⟨rfl, hb⟩; refine ⟨_, rfl, ?_⟩; have n0_ := Aside0.mk (below_step zb hb); clear HB; have HB := n0_; clear n0_; (try clear hb); (try clear hb2); (try clear hk); (try clear hi)) | ((with_reducible refine gate_callee (f := 10) rfl ?_); refine goesL_ (some 26) rfl rfl Try.func10 (by kernel_rfl) rfl #[.slice A0 l0.length c0, .slice A1 l1.length c1] rfl zl ?_; (with_reducible refine (emit_Same.calls kj2 _ _ l0 _ _ l1 t338 _ ?side1 ?side2 ?side3 ?side4 A11.out).mono ?_); (case side1 => repeat (first | exact (Kd.C_below HR0.out HB.out) | (with_reducible refine Kd.C_alloc ?_ _) | (with_reducible refine Kd.C_drewN ?_ _) | (with_reducible refine Kd.C_drew ?_))); (case side2 => exact HC0.out); (case side3 => repeat (first | exact (Kd.C_below HR1.out HB.out) | (with_reducible refine Kd.C_alloc ?_ _) | (with_reducible refine Kd.C_drewN ?_ _) | (with_reducible refine Kd.C_drew ?_))); (case side4 => exact HC1.out); rintro e w' ⟨rfl, ⟨nd, rfl⟩⟩; refine ⟨_, rfl, ?_⟩) | ((with_reducible refine gate_callee (f := 11) rfl ?_); refine goesL_ (some 29) rfl rfl Try.func11 (by kernel_rfl) rfl #[.slice A0 l0.length c0, .slice A1 l1.length c1] rfl zl ?_; (with_reducible refine (dactylref10_Same.calls kj2 _ _ l0 _ _ l1 t339 _ ?side1 ?side2 ?side3 ?side4 A12.out).mono ?_); (case side1 => repeat (first | exact (Kd.C_below HR0.out zb) | (with_reducible refine Kd.C_alloc ?_ _) | (with_reducible refine Kd.C_drewN ?_ _) | (with_reducible refine Kd.C_drew ?_))); (case side2 => exact HC0.out); (case side3 => repeat (first | exact (Kd.C_below HR1.out zb) | (with_reducible refine Kd.C_alloc ?_ _) | (with_reducible refine Kd.C_drewN ?_ _) | (with_reducible refine Kd.C_drew ?_))); (case side4 => exact HC1.out); rintro e w' ⟨rfl, ⟨nd, rfl⟩⟩; refine ⟨_, rfl, ?_⟩))
     go_ret
     exact ⟨zr, zb⟩
    ·rw [if_neg c13] at H
     have c13b0 : (t338 != t339) = false := by simpa using c13
     (try (have c13b1 : decide (t338 = t339) = true := by simpa using c13))
     (try (have c13b2 : (t338 == t339) = true := by simpa using c13))
     clear c13
     have H' := Aside0.mk H
     clear H
     go_wp2_with (first | ((with_reducible refine gate_callee (f := 9) rfl ?_); refine goesL_ (some 21) rfl rfl Try.func9 (by kernel_rfl) rfl #[.slice A0 l0.length c0] rfl zl ?_; (with_reducible refine (emit_Text.calls kj2 _ _ l0 t336 t337 _ ?side1 ?side2 A10.out).mono ?_); (case side1 => repeat (first | exact (Kd.C_below HR0.out HB.out) | (with_reducible refine Kd.C_alloc ?_ _) | (with_reducible refine Kd.C_drewN ?_ _) | (with_reducible refine Kd.C_drew ?_))); (case side2 => exact HC0.out); rintro e w15 ⟨rfl, hb⟩; refine ⟨_, rfl, ?_⟩; have n0_ := Aside0.mk (below_step zb hb); clear HB; have HB := n0_; clear n0_; (try clear hb); (try clear hb2); (try clear hk); (try clear hi)) | ((with_reducible refine gate_callee (f := 10) rfl ?_); refine goesL_ (some 26) rfl rfl Try.func10 (by kernel_rfl) rfl #[.slice A0 l0.length c0, .slice A1 l1.length c1] rfl zl ?_; (with_reducible refine (emit_Same.calls kj2 _ _ l0 _ _ l1 t338 _ ?side1 ?side2 ?side3 ?side4 A11.out).mono ?_); (case side1 => repeat (first | exact (Kd.C_below HR0.out HB.out) | (with_reducible refine Kd.C_alloc ?_ _) | (with_reducible refine Kd.C_drewN ?_ _) | (with_reducible refine Kd.C_drew ?_))); (case side2 => exact HC0.out); (case side3 => repeat (first | exact (Kd.C_below HR1.out HB.out) | (with_reducible refine Kd.C_alloc ?_ _) | (with_reducible refine Kd.C_drewN ?_ _) | (with_reducible refine Kd.C_drew ?_))); (case side4 => exact HC1.out); rintro e w' ⟨rfl, ⟨nd, rfl⟩⟩; refine ⟨_, rfl, ?_⟩) | ((with_reducible refine gate_callee (f := 11) rfl ?_); refine goesL_ (some 29) rfl rfl Try.func11 (by kernel_rfl) rfl #[.slice A0 l0.length c0, .slice A1 l1.length c1] rfl zl ?_; (with_reducible refine (dactylref10_Same.calls kj2 _ _ l0 _ _ l1 t339 _ ?side1 ?side2 ?side3 ?side4 A12.out).mono ?_); (case side1 => repeat (first | exact (Kd.C_below HR0.out zb) | (with_reducible refine Kd.C_alloc ?_ _) | (with_reducible refine Kd.C_drewN ?_ _) | (with_reducible refine Kd.C_drew ?_))); (case side2 => exact HC0.out); (case side3 => repeat (first | exact (Kd.C_below HR1.out zb) | (with_reducible refine Kd.C_alloc ?_ _) | (with_reducible refine Kd.C_drewN ?_ _) | (with_reducible refine Kd.C_drew ?_))); (case side4 => exact HC1.out); rintro e w' ⟨rfl, ⟨nd, rfl⟩⟩; refine ⟨_, rfl, ?_⟩))
     go_loopg [7] kj2 (fun kq v7 w' => ∃ (x7_2 : Int), v7 = .int .i64 x7_2 ∧ Aside0 (dactyllaw10_EmitTexts.l0 kq l0 t336 t337 x7_2 = some r) ∧ Aside0 (kq ≤ kj2) ∧ Aside0 (Below w.heap.size w w'))
     case atStart => exact ⟨(0), (by first | rfl | (simp; done) | (simp [*]; done)), H', ⟨Nat.le_refl _⟩, ⟨by repeat (first | (with_reducible first | exact HB.out | apply below_alloc | apply pw_below_drewN | apply below_drew1) | exact HB.out)⟩⟩
     case round =>
      clear H'
      try clear c1
      try clear p2
      try clear c3
      try clear c5
      try clear c7
      try clear c8
      try clear c9
      try clear c10
      try clear c11
      try clear c13
      try clear c13b0
      try clear c13b1
      try clear c13b2
      try clear p2
      obtain ⟨x7_2, rfl, HA, HK2, HB⟩ := hrel
      cases gk with
      | zero => exact absurd HA.out (by simp [dactyllaw10_EmitTexts.l0])
      | succ k2 =>
       have H := HA.out
       clear HA
       simp only [dactyllaw10_EmitTexts.l0] at H
       by_cases c16 : x7_2 < (l0.length : Int)
       ·rw [if_pos c16] at H
        have c16b0 : decide (x7_2 < (l0.length : Int)) = true := decide_eq_true c16
        clear c16
        by_cases c17 : 0 ≤ x7_2
        ·rw [if_pos c17] at H
         have c17b0 : decide (0 ≤ x7_2) = true := decide_eq_true c17
         clear c17
         replace H := Option.bind_eq_some_iff.mp H
         obtain ⟨t341, A180, H⟩ := H
         replace H : ((dactylref10_May.f k2 ((rd_T31 l0 x7_2).f0) ((rd_T31 l0 x7_2).f1) ((rd_T31 l0 x7_2).f2) ((rd_T31 l0 x7_2).f3)).bind fun t343 => (if ((t341 == 0) != t343) = true then (some false) else (dactyllaw10_EmitTexts.l0 k2 l0 t336 t337 (wrap64 (x7_2 + 1))))) = some r := H
         have A18 := Aside0.mk A180
         clear A180
         replace H := Option.bind_eq_some_iff.mp H
         obtain ⟨t343, A190, H⟩ := H
         replace H : (if ((t341 == 0) != t343) = true then (some false) else (dactyllaw10_EmitTexts.l0 k2 l0 t336 t337 (wrap64 (x7_2 + 1)))) = some r := H
         have A19 := Aside0.mk A190
         clear A190
         by_cases c20 : ((t341 == 0) != t343) = true
         ·rw [if_pos c20] at H
          have c20b0 : ((t341 == 0) != t343) = true := c20
          (try (have c20b1 : decide ((t341 == 0) = t343) = false := by simpa using c20))
          (try (have c20b2 : ((t341 == 0) == t343) = false := by simpa using c20))
          (try (have c20b3 : ¬ ((t341 == 0) = t343) := by simpa using c20))
          clear c20
          obtain rfl := Option.some.inj H
          try go_wp2
          have n0_ := Aside0.mk (below_drew1 HB.out)
          clear HB
          have HB := n0_
          clear n0_
          have p340 : 0 ≤ (x7_2 : Int) := of_decide_eq_true za
          have q340 : x7_2 < (l0.length : Int) := of_decide_eq_true za
          obtain ⟨ad340, e340, hx340_0, hx340_1, hx340_2, hx340_3⟩ := at_T31 HR0.out x7_2 p340 q340
          have hw340_3 := hx340_3
          have hw340_2 := hx340_2
          have hw340_1 := hx340_1
          have hw340_0 := hx340_0
          cases e340
          replace hx340_0 := (HB.out.cell (World.block_lt_of_cell? w _ hx340_0)).trans hx340_0
          replace hx340_1 := (HB.out.cell (World.block_lt_of_cell? w _ hx340_1)).trans hx340_1
          replace hx340_2 := (HB.out.cell (World.block_lt_of_cell? w _ hx340_2)).trans hx340_2
          replace hx340_3 := (HB.out.cell (World.block_lt_of_cell? w _ hx340_3)).trans hx340_3
          replace p340 := eq_true p340
          replace q340 := eq_true q340
          have p342 : 0 ≤ (x7_2 : Int) := of_decide_eq_true za
          have q342 : x7_2 < (l0.length : Int) := of_decide_eq_true za
          obtain ⟨ad342, e342, hx342_0, hx342_1, hx342_2, hx342_3⟩ := at_T31 HR0.out x7_2 p342 q342
          have hw342_3 := hx342_3
          have hw342_2 := hx342_2
          have hw342_1 := hx342_1
          have hw342_0 := hx342_0
          obtain rfl : ad340 = ad342 := (by injection e342)
          replace hx342_0 := (HB.out.cell (World.block_lt_of_cell? w _ hx342_0)).trans hx342_0
          replace hx342_1 := (HB.out.cell (World.block_lt_of_cell? w _ hx342_1)).trans hx342_1
          replace hx342_2 := (HB.out.cell (World.block_lt_of_cell? w _ hx342_2)).trans hx342_2
          replace hx342_3 := (HB.out.cell (World.block_lt_of_cell? w _ hx342_3)).trans hx342_3
          replace p342 := eq_true p342
          replace q342 := eq_true q342
          refine start_ (n := 12) (S := fun w' => w'.cell? (ad340.add ((x7_2).toNat * 4)) = some (.int .i64 ((rd_T31 l0 x7_2).f0)) ∧ w'.cell? ⟨(ad340.add ((x7_2).toNat * 4)).block, (ad340.add ((x7_2).toNat * 4)).off + 1, none⟩ = some (.int .i64 ((rd_T31 l0 x7_2).f1)) ∧ w'.cell? ⟨(ad340.add ((x7_2).toNat * 4)).block, (ad340.add ((x7_2).toNat * 4)).off + 2, none⟩ = some (.int .i64 ((rd_T31 l0 x7_2).f2)) ∧ w'.cell? ⟨(ad340.add ((x7_2).toNat * 4)).block, (ad340.add ((x7_2).toNat * 4)).off + 3, none⟩ = some (.string ((rd_T31 l0 x7_2).f3)) ∧ w'.cell? (ad340.add ((x7_2).toNat * 4)) = some (.int .i64 ((rd_T31 l0 x7_2).f0)) ∧ w'.cell? ⟨(ad340.add ((x7_2).toNat * 4)).block, (ad340.add ((x7_2).toNat * 4)).off + 1, none⟩ = some (.int .i64 ((rd_T31 l0 x7_2).f1)) ∧ w'.cell? ⟨(ad340.add ((x7_2).toNat * 4)).block, (ad340.add ((x7_2).toNat * 4)).off + 2, none⟩ = some (.int .i64 ((rd_T31 l0 x7_2).f2)) ∧ w'.cell? ⟨(ad340.add ((x7_2).toNat * 4)).block, (ad340.add ((x7_2).toNat * 4)).off + 3, none⟩ = some (.string ((rd_T31 l0 x7_2).f3))) (ds := []) #[false, false, false, false, false, false, false, false, false, false, false, false] (by kernel_rfl) rfl rfl ⟨((HB.out.cell (World.block_lt_of_cell? w _ hw340_0)).trans hw340_0), ((HB.out.cell (World.block_lt_of_cell? w _ hw340_1)).trans hw340_1), ((HB.out.cell (World.block_lt_of_cell? w _ hw340_2)).trans hw340_2), ((HB.out.cell (World.block_lt_of_cell? w _ hw340_3)).trans hw340_3), ((HB.out.cell (World.block_lt_of_cell? w _ hw342_0)).trans hw342_0), ((HB.out.cell (World.block_lt_of_cell? w _ hw342_1)).trans hw342_1), ((HB.out.cell (World.block_lt_of_cell? w _ hw342_2)).trans hw342_2), ((HB.out.cell (World.block_lt_of_cell? w _ hw342_3)).trans hw342_3)⟩ (fun hHeld => ?_); refine with_tabW dactyllaw10_EmitTexts.tab9 dactyllaw10_EmitTexts.bits9 (fun HT_ HW_ => ?_)
          generalize wr.drew = w21 at HB hx340_0 hx340_1 hx340_2 hx340_3 hx342_0 hx342_1 hx342_2 hx342_3 hHeld ⊢
          refine pure_ (i := 0) (N := some 37) (v := ?_) (a' := ?_) #[true, false, false, false, false, false, false, false, false, false, false, false] rfl rfl (any_of HT_.out (by kernel_rfl)) (fun _ _ _ h => h) (Or.inl ⟨by rfl, ?_⟩) ?_ ?_
          rotate_left
          ·intro w'
           go_simp
           with_reducible rfl
          rotate_left
          ·simp only [Act.put, List.setIfInBounds_toArray, List.set_cons_zero, List.set_cons_succ, i64_w, i32_w]
           rfl
          refine pure_ (i := 1) (N := some 38) (v := ?_) (a' := ?_) #[true, true, false, false, false, false, false, false, false, false, false, false] rfl rfl (any_of HT_.out (by kernel_rfl)) (fun _ _ _ h => h) (Or.inl ⟨by rfl, ?_⟩) ?_ ?_
          rotate_left
          ·intro w'
           go_simp
           with_reducible rfl
          rotate_left
          ·simp only [Act.put, List.setIfInBounds_toArray, List.set_cons_zero, List.set_cons_succ, i64_w, i32_w]
           rfl
          refine pure_ (i := 2) (N := some 39) (v := ?_) (a' := ?_) #[true, true, true, false, false, false, false, false, false, false, false, false] rfl rfl (any_of HT_.out (by kernel_rfl)) (fun _ _ _ h => h) (Or.inl ⟨by rfl, ?_⟩) ?_ ?_
          rotate_left
          ·intro w'
           go_simp
           with_reducible rfl
          rotate_left
          ·simp only [Act.put, List.setIfInBounds_toArray, List.set_cons_zero, List.set_cons_succ, i64_w, i32_w]
           rfl
          refine pure_ (i := 6) (N := some 43) (v := ?_) (a' := ?_) #[true, true, true, false, false, false, true, false, false, false, false, false] rfl rfl (any_of HT_.out (by kernel_rfl)) (fun _ _ _ h => h) (Or.inl ⟨by rfl, ?_⟩) ?_ ?_
          rotate_left
          ·intro w'
           go_simp
           with_reducible rfl
          rotate_left
          ·simp only [Act.put, List.setIfInBounds_toArray, List.set_cons_zero, List.set_cons_succ, i64_w, i32_w]
           rfl
          refine pure_ (i := 7) (N := some 44) (v := ?_) (a' := ?_) #[true, true, true, false, false, false, true, true, false, false, false, false] rfl rfl (any_of HT_.out (by kernel_rfl)) (fun _ _ _ h => h) (Or.inl ⟨by rfl, ?_⟩) ?_ ?_
          rotate_left
          ·intro w'
           go_simp
           with_reducible rfl
          rotate_left
          ·simp only [Act.put, List.setIfInBounds_toArray, List.set_cons_zero, List.set_cons_succ, i64_w, i32_w]
           rfl
          refine pure_ (i := 8) (N := some 45) (v := ?_) (a' := ?_) #[true, true, true, false, false, false, true, true, true, false, false, false] rfl rfl (any_of HT_.out (by kernel_rfl)) (fun _ _ _ h => h) (Or.inl ⟨by rfl, ?_⟩) ?_ ?_
          rotate_left
          ·intro w'
           go_simp
           with_reducible rfl
          rotate_left
          ·simp only [Act.put, List.setIfInBounds_toArray, List.set_cons_zero, List.set_cons_succ, i64_w, i32_w]
           rfl
          refine take_ (i := 3) (N := some 40) (v := ?_) (a' := ?_) #[true, true, true, true, false, false, true, true, true, false, false, false] rfl rfl (take_ofW HT_.out HW_.out (by kernel_rfl)) (fun _ _ _ h => h) (Or.inl ⟨by rfl, ?_⟩) hHeld ?_ ?_
          rotate_left
          ·rintro w' ⟨s0, s1, s2, s3, s4, s5, s6, s7⟩
           go_simp
           with_reducible rfl
          rotate_left
          ·simp only [Act.put, List.setIfInBounds_toArray, List.set_cons_zero, List.set_cons_succ, i64_w, i32_w]
           rfl
          refine take_ (i := 9) (N := some 46) (v := ?_) (a' := ?_) #[true, true, true, true, false, false, true, true, true, true, false, false] rfl rfl (take_ofW HT_.out HW_.out (by kernel_rfl)) (fun _ _ _ h => h) (Or.inl ⟨by rfl, ?_⟩) hHeld ?_ ?_
          rotate_left
          ·rintro w' ⟨s0, s1, s2, s3, s4, s5, s6, s7⟩
           go_simp
           with_reducible rfl
          rotate_left
          ·simp only [Act.put, List.setIfInBounds_toArray, List.set_cons_zero, List.set_cons_succ, i64_w, i32_w]
           rfl
          refine one_ (i := 4) (N := some 41) #[true, true, true, true, true, false, true, true, true, true, false, false] rfl rfl (one_of HT_.out (by kernel_rfl)) (by decide) (fun K hK => ?_)
          refine goes_ Try.func12 (by kernel_rfl) rfl #[.agg #[.int .i64 ((rd_T31 l0 x7_2).f0), .int .i64 ((rd_T31 l0 x7_2).f1), .int .i64 ((rd_T31 l0 x7_2).f2), .string ((rd_T31 l0 x7_2).f3)]] (by rfl) rfl rfl zl ?_
          with_reducible refine (emit_Check.calls ((rd_T31 l0 x7_2).f0) ((rd_T31 l0 x7_2).f1) ((rd_T31 l0 x7_2).f2) ((rd_T31 l0 x7_2).f3) t341 _ A18.out).mono ?_
          rintro e w22 ⟨rfl, hb⟩
          refine ⟨_, rfl, ?_⟩
          have n0_ := Aside0.mk (below_step zb hb)
          clear HB
          have HB := n0_
          clear n0_
          (try clear hb)
          (try clear hb2)
          (try clear hk)
          (try clear hi)
          refine hK.out _ _ ⟨((HB.out.cell (World.block_lt_of_cell? w _ hw340_0)).trans hw340_0), ((HB.out.cell (World.block_lt_of_cell? w _ hw340_1)).trans hw340_1), ((HB.out.cell (World.block_lt_of_cell? w _ hw340_2)).trans hw340_2), ((HB.out.cell (World.block_lt_of_cell? w _ hw340_3)).trans hw340_3), ((HB.out.cell (World.block_lt_of_cell? w _ hw342_0)).trans hw342_0), ((HB.out.cell (World.block_lt_of_cell? w _ hw342_1)).trans hw342_1), ((HB.out.cell (World.block_lt_of_cell? w _ hw342_2)).trans hw342_2), ((HB.out.cell (World.block_lt_of_cell? w _ hw342_3)).trans hw342_3)⟩ (fun hHeld => ?_)
          clear hK K
          refine norm_ (a' := ?_) ?_ ?_
          rotate_left
          ·show Act.put _ (some 41) _ = _
           simp only [Act.put, List.setIfInBounds_toArray, List.set_cons_zero, List.set_cons_succ, i64_w, i32_w]
           rfl
          refine pure_ (i := 5) (N := some 42) (v := ?_) (a' := ?_) #[true, true, true, true, true, true, true, true, true, true, false, false] rfl rfl (any_of HT_.out (by kernel_rfl)) (fun _ _ _ h => h) (Or.inl ⟨by rfl, ?_⟩) ?_ ?_
          rotate_left
          ·intro w'
           go_simp
           with_reducible rfl
          rotate_left
          ·simp only [Act.put, List.setIfInBounds_toArray, List.set_cons_zero, List.set_cons_succ, i64_w, i32_w]
           rfl
          refine one_ (i := 10) (N := some 47) #[true, true, true, true, true, true, true, true, true, true, true, false] rfl rfl (one_of HT_.out (by kernel_rfl)) (by decide) (fun K hK => ?_)
          refine goes_ Try.func13 (by kernel_rfl) rfl #[.agg #[.int .i64 ((rd_T31 l0 x7_2).f0), .int .i64 ((rd_T31 l0 x7_2).f1), .int .i64 ((rd_T31 l0 x7_2).f2), .string ((rd_T31 l0 x7_2).f3)]] (by rfl) rfl rfl zl ?_
          with_reducible refine (dactylref10_May.calls k2 ((rd_T31 l0 x7_2).f0) ((rd_T31 l0 x7_2).f1) ((rd_T31 l0 x7_2).f2) ((rd_T31 l0 x7_2).f3) t343 _ A19.out).mono ?_
          rintro e w23 ⟨rfl, hb⟩
          refine ⟨_, rfl, ?_⟩
          have n0_ := Aside0.mk (below_step zb hb)
          clear HB
          have HB := n0_
          clear n0_
          (try clear hb)
          (try clear hb2)
          (try clear hk)
          (try clear hi)
          refine hK.out _ _ ⟨((HB.out.cell (World.block_lt_of_cell? w _ hw340_0)).trans hw340_0), ((HB.out.cell (World.block_lt_of_cell? w _ hw340_1)).trans hw340_1), ((HB.out.cell (World.block_lt_of_cell? w _ hw340_2)).trans hw340_2), ((HB.out.cell (World.block_lt_of_cell? w _ hw340_3)).trans hw340_3), ((HB.out.cell (World.block_lt_of_cell? w _ hw342_0)).trans hw342_0), ((HB.out.cell (World.block_lt_of_cell? w _ hw342_1)).trans hw342_1), ((HB.out.cell (World.block_lt_of_cell? w _ hw342_2)).trans hw342_2), ((HB.out.cell (World.block_lt_of_cell? w _ hw342_3)).trans hw342_3)⟩ (fun hHeld => ?_)
          clear hK K
          refine norm_ (a' := ?_) ?_ ?_
          rotate_left
          ·show Act.put _ (some 47) _ = _
           simp only [Act.put, List.setIfInBounds_toArray, List.set_cons_zero, List.set_cons_succ, i64_w, i32_w]
           rfl
          refine pure_ (i := 11) (N := some 48) (v := ?_) (a' := ?_) #[true, true, true, true, true, true, true, true, true, true, true, true] rfl rfl (any_of HT_.out (by kernel_rfl)) (fun _ _ _ h => h) (Or.inl ⟨by rfl, ?_⟩) ?_ ?_
          rotate_left
          ·intro w'
           go_simp
           with_reducible rfl
          rotate_left
          ·simp only [Act.put, List.setIfInBounds_toArray, List.set_cons_zero, List.set_cons_succ, i64_w, i32_w]
           rfl
          refine done_ (done_of HT_.out (by kernel_rfl)) ?_
          try go_wp2
          go_ret
          exact ⟨zr, zb⟩
         ·rw [if_neg c20] at H
          have c20b0 : ((t341 == 0) != t343) = false := by simpa using c20
          (try (have c20b1 : decide ((t341 == 0) = t343) = true := by simpa using c20))
          (try (have c20b2 : ((t341 == 0) == t343) = true := by simpa using c20))
          clear c20
          have H' := Aside0.mk H
          clear H
          try go_wp2
          have n0_ := Aside0.mk (below_drew1 HB.out)
          clear HB
          have HB := n0_
          clear n0_
          have p340 : 0 ≤ (x7_2 : Int) := of_decide_eq_true za
          have q340 : x7_2 < (l0.length : Int) := of_decide_eq_true za
          obtain ⟨ad340, e340, hx340_0, hx340_1, hx340_2, hx340_3⟩ := at_T31 HR0.out x7_2 p340 q340
          have hw340_3 := hx340_3
          have hw340_2 := hx340_2
          have hw340_1 := hx340_1
          have hw340_0 := hx340_0
          cases e340
          replace hx340_0 := (HB.out.cell (World.block_lt_of_cell? w _ hx340_0)).trans hx340_0
          replace hx340_1 := (HB.out.cell (World.block_lt_of_cell? w _ hx340_1)).trans hx340_1
          replace hx340_2 := (HB.out.cell (World.block_lt_of_cell? w _ hx340_2)).trans hx340_2
          replace hx340_3 := (HB.out.cell (World.block_lt_of_cell? w _ hx340_3)).trans hx340_3
          replace p340 := eq_true p340
          replace q340 := eq_true q340
          have p342 : 0 ≤ (x7_2 : Int) := of_decide_eq_true za
          have q342 : x7_2 < (l0.length : Int) := of_decide_eq_true za
          obtain ⟨ad342, e342, hx342_0, hx342_1, hx342_2, hx342_3⟩ := at_T31 HR0.out x7_2 p342 q342
          have hw342_3 := hx342_3
          have hw342_2 := hx342_2
          have hw342_1 := hx342_1
          have hw342_0 := hx342_0
          obtain rfl : ad340 = ad342 := (by injection e342)
          replace hx342_0 := (HB.out.cell (World.block_lt_of_cell? w _ hx342_0)).trans hx342_0
          replace hx342_1 := (HB.out.cell (World.block_lt_of_cell? w _ hx342_1)).trans hx342_1
          replace hx342_2 := (HB.out.cell (World.block_lt_of_cell? w _ hx342_2)).trans hx342_2
          replace hx342_3 := (HB.out.cell (World.block_lt_of_cell? w _ hx342_3)).trans hx342_3
          replace p342 := eq_true p342
          replace q342 := eq_true q342
          refine start_ (n := 12) (S := fun w' => w'.cell? (ad340.add ((x7_2).toNat * 4)) = some (.int .i64 ((rd_T31 l0 x7_2).f0)) ∧ w'.cell? ⟨(ad340.add ((x7_2).toNat * 4)).block, (ad340.add ((x7_2).toNat * 4)).off + 1, none⟩ = some (.int .i64 ((rd_T31 l0 x7_2).f1)) ∧ w'.cell? ⟨(ad340.add ((x7_2).toNat * 4)).block, (ad340.add ((x7_2).toNat * 4)).off + 2, none⟩ = some (.int .i64 ((rd_T31 l0 x7_2).f2)) ∧ w'.cell? ⟨(ad340.add ((x7_2).toNat * 4)).block, (ad340.add ((x7_2).toNat * 4)).off + 3, none⟩ = some (.string ((rd_T31 l0 x7_2).f3)) ∧ w'.cell? (ad340.add ((x7_2).toNat * 4)) = some (.int .i64 ((rd_T31 l0 x7_2).f0)) ∧ w'.cell? ⟨(ad340.add ((x7_2).toNat * 4)).block, (ad340.add ((x7_2).toNat * 4)).off + 1, none⟩ = some (.int .i64 ((rd_T31 l0 x7_2).f1)) ∧ w'.cell? ⟨(ad340.add ((x7_2).toNat * 4)).block, (ad340.add ((x7_2).toNat * 4)).off + 2, none⟩ = some (.int .i64 ((rd_T31 l0 x7_2).f2)) ∧ w'.cell? ⟨(ad340.add ((x7_2).toNat * 4)).block, (ad340.add ((x7_2).toNat * 4)).off + 3, none⟩ = some (.string ((rd_T31 l0 x7_2).f3))) (ds := []) #[false, false, false, false, false, false, false, false, false, false, false, false] (by kernel_rfl) rfl rfl ⟨((HB.out.cell (World.block_lt_of_cell? w _ hw340_0)).trans hw340_0), ((HB.out.cell (World.block_lt_of_cell? w _ hw340_1)).trans hw340_1), ((HB.out.cell (World.block_lt_of_cell? w _ hw340_2)).trans hw340_2), ((HB.out.cell (World.block_lt_of_cell? w _ hw340_3)).trans hw340_3), ((HB.out.cell (World.block_lt_of_cell? w _ hw342_0)).trans hw342_0), ((HB.out.cell (World.block_lt_of_cell? w _ hw342_1)).trans hw342_1), ((HB.out.cell (World.block_lt_of_cell? w _ hw342_2)).trans hw342_2), ((HB.out.cell (World.block_lt_of_cell? w _ hw342_3)).trans hw342_3)⟩ (fun hHeld => ?_); refine with_tabW dactyllaw10_EmitTexts.tab9 dactyllaw10_EmitTexts.bits9 (fun HT_ HW_ => ?_)
          generalize wr.drew = w24 at HB hx340_0 hx340_1 hx340_2 hx340_3 hx342_0 hx342_1 hx342_2 hx342_3 hHeld ⊢
          refine pure_ (i := 0) (N := some 37) (v := ?_) (a' := ?_) #[true, false, false, false, false, false, false, false, false, false, false, false] rfl rfl (any_of HT_.out (by kernel_rfl)) (fun _ _ _ h => h) (Or.inl ⟨by rfl, ?_⟩) ?_ ?_
          rotate_left
          ·intro w'
           go_simp
           with_reducible rfl
          rotate_left
          ·simp only [Act.put, List.setIfInBounds_toArray, List.set_cons_zero, List.set_cons_succ, i64_w, i32_w]
           rfl
          refine pure_ (i := 1) (N := some 38) (v := ?_) (a' := ?_) #[true, true, false, false, false, false, false, false, false, false, false, false] rfl rfl (any_of HT_.out (by kernel_rfl)) (fun _ _ _ h => h) (Or.inl ⟨by rfl, ?_⟩) ?_ ?_
          rotate_left
          ·intro w'
           go_simp
           with_reducible rfl
          rotate_left
          ·simp only [Act.put, List.setIfInBounds_toArray, List.set_cons_zero, List.set_cons_succ, i64_w, i32_w]
           rfl
          refine pure_ (i := 2) (N := some 39) (v := ?_) (a' := ?_) #[true, true, true, false, false, false, false, false, false, false, false, false] rfl rfl (any_of HT_.out (by kernel_rfl)) (fun _ _ _ h => h) (Or.inl ⟨by rfl, ?_⟩) ?_ ?_
          rotate_left
          ·intro w'
           go_simp
           with_reducible rfl
          rotate_left
          ·simp only [Act.put, List.setIfInBounds_toArray, List.set_cons_zero, List.set_cons_succ, i64_w, i32_w]
           rfl
          refine pure_ (i := 6) (N := some 43) (v := ?_) (a' := ?_) #[true, true, true, false, false, false, true, false, false, false, false, false] rfl rfl (any_of HT_.out (by kernel_rfl)) (fun _ _ _ h => h) (Or.inl ⟨by rfl, ?_⟩) ?_ ?_
          rotate_left
          ·intro w'
           go_simp
           with_reducible rfl
          rotate_left
          ·simp only [Act.put, List.setIfInBounds_toArray, List.set_cons_zero, List.set_cons_succ, i64_w, i32_w]
           rfl
          refine pure_ (i := 7) (N := some 44) (v := ?_) (a' := ?_) #[true, true, true, false, false, false, true, true, false, false, false, false] rfl rfl (any_of HT_.out (by kernel_rfl)) (fun _ _ _ h => h) (Or.inl ⟨by rfl, ?_⟩) ?_ ?_
          rotate_left
          ·intro w'
           go_simp
           with_reducible rfl
          rotate_left
          ·simp only [Act.put, List.setIfInBounds_toArray, List.set_cons_zero, List.set_cons_succ, i64_w, i32_w]
           rfl
          refine pure_ (i := 8) (N := some 45) (v := ?_) (a' := ?_) #[true, true, true, false, false, false, true, true, true, false, false, false] rfl rfl (any_of HT_.out (by kernel_rfl)) (fun _ _ _ h => h) (Or.inl ⟨by rfl, ?_⟩) ?_ ?_
          rotate_left
          ·intro w'
           go_simp
           with_reducible rfl
          rotate_left
          ·simp only [Act.put, List.setIfInBounds_toArray, List.set_cons_zero, List.set_cons_succ, i64_w, i32_w]
           rfl
          refine take_ (i := 3) (N := some 40) (v := ?_) (a' := ?_) #[true, true, true, true, false, false, true, true, true, false, false, false] rfl rfl (take_ofW HT_.out HW_.out (by kernel_rfl)) (fun _ _ _ h => h) (Or.inl ⟨by rfl, ?_⟩) hHeld ?_ ?_
          rotate_left
          ·rintro w' ⟨s0, s1, s2, s3, s4, s5, s6, s7⟩
           go_simp
           with_reducible rfl
          rotate_left
          ·simp only [Act.put, List.setIfInBounds_toArray, List.set_cons_zero, List.set_cons_succ, i64_w, i32_w]
           rfl
          refine take_ (i := 9) (N := some 46) (v := ?_) (a' := ?_) #[true, true, true, true, false, false, true, true, true, true, false, false] rfl rfl (take_ofW HT_.out HW_.out (by kernel_rfl)) (fun _ _ _ h => h) (Or.inl ⟨by rfl, ?_⟩) hHeld ?_ ?_
          rotate_left
          ·rintro w' ⟨s0, s1, s2, s3, s4, s5, s6, s7⟩
           go_simp
           with_reducible rfl
          rotate_left
          ·simp only [Act.put, List.setIfInBounds_toArray, List.set_cons_zero, List.set_cons_succ, i64_w, i32_w]
           rfl
          refine one_ (i := 4) (N := some 41) #[true, true, true, true, true, false, true, true, true, true, false, false] rfl rfl (one_of HT_.out (by kernel_rfl)) (by decide) (fun K hK => ?_)
          refine goes_ Try.func12 (by kernel_rfl) rfl #[.agg #[.int .i64 ((rd_T31 l0 x7_2).f0), .int .i64 ((rd_T31 l0 x7_2).f1), .int .i64 ((rd_T31 l0 x7_2).f2), .string ((rd_T31 l0 x7_2).f3)]] (by rfl) rfl rfl zl ?_
          with_reducible refine (emit_Check.calls ((rd_T31 l0 x7_2).f0) ((rd_T31 l0 x7_2).f1) ((rd_T31 l0 x7_2).f2) ((rd_T31 l0 x7_2).f3) t341 _ A18.out).mono ?_
          rintro e w25 ⟨rfl, hb⟩
          refine ⟨_, rfl, ?_⟩
          have n0_ := Aside0.mk (below_step zb hb)
          clear HB
          have HB := n0_
          clear n0_
          (try clear hb)
          (try clear hb2)
          (try clear hk)
          (try clear hi)
          refine hK.out _ _ ⟨((HB.out.cell (World.block_lt_of_cell? w _ hw340_0)).trans hw340_0), ((HB.out.cell (World.block_lt_of_cell? w _ hw340_1)).trans hw340_1), ((HB.out.cell (World.block_lt_of_cell? w _ hw340_2)).trans hw340_2), ((HB.out.cell (World.block_lt_of_cell? w _ hw340_3)).trans hw340_3), ((HB.out.cell (World.block_lt_of_cell? w _ hw342_0)).trans hw342_0), ((HB.out.cell (World.block_lt_of_cell? w _ hw342_1)).trans hw342_1), ((HB.out.cell (World.block_lt_of_cell? w _ hw342_2)).trans hw342_2), ((HB.out.cell (World.block_lt_of_cell? w _ hw342_3)).trans hw342_3)⟩ (fun hHeld => ?_)
          clear hK K
          refine norm_ (a' := ?_) ?_ ?_
          rotate_left
          ·show Act.put _ (some 41) _ = _
           simp only [Act.put, List.setIfInBounds_toArray, List.set_cons_zero, List.set_cons_succ, i64_w, i32_w]
           rfl
          refine pure_ (i := 5) (N := some 42) (v := ?_) (a' := ?_) #[true, true, true, true, true, true, true, true, true, true, false, false] rfl rfl (any_of HT_.out (by kernel_rfl)) (fun _ _ _ h => h) (Or.inl ⟨by rfl, ?_⟩) ?_ ?_
          rotate_left
          ·intro w'
           go_simp
           with_reducible rfl
          rotate_left
          ·simp only [Act.put, List.setIfInBounds_toArray, List.set_cons_zero, List.set_cons_succ, i64_w, i32_w]
           rfl
          refine one_ (i := 10) (N := some 47) #[true, true, true, true, true, true, true, true, true, true, true, false] rfl rfl (one_of HT_.out (by kernel_rfl)) (by decide) (fun K hK => ?_)
          refine goes_ Try.func13 (by kernel_rfl) rfl #[.agg #[.int .i64 ((rd_T31 l0 x7_2).f0), .int .i64 ((rd_T31 l0 x7_2).f1), .int .i64 ((rd_T31 l0 x7_2).f2), .string ((rd_T31 l0 x7_2).f3)]] (by rfl) rfl rfl zl ?_
          with_reducible refine (dactylref10_May.calls k2 ((rd_T31 l0 x7_2).f0) ((rd_T31 l0 x7_2).f1) ((rd_T31 l0 x7_2).f2) ((rd_T31 l0 x7_2).f3) t343 _ A19.out).mono ?_
          rintro e w26 ⟨rfl, hb⟩
          refine ⟨_, rfl, ?_⟩
          have n0_ := Aside0.mk (below_step zb hb)
          clear HB
          have HB := n0_
          clear n0_
          (try clear hb)
          (try clear hb2)
          (try clear hk)
          (try clear hi)
          refine hK.out _ _ ⟨((HB.out.cell (World.block_lt_of_cell? w _ hw340_0)).trans hw340_0), ((HB.out.cell (World.block_lt_of_cell? w _ hw340_1)).trans hw340_1), ((HB.out.cell (World.block_lt_of_cell? w _ hw340_2)).trans hw340_2), ((HB.out.cell (World.block_lt_of_cell? w _ hw340_3)).trans hw340_3), ((HB.out.cell (World.block_lt_of_cell? w _ hw342_0)).trans hw342_0), ((HB.out.cell (World.block_lt_of_cell? w _ hw342_1)).trans hw342_1), ((HB.out.cell (World.block_lt_of_cell? w _ hw342_2)).trans hw342_2), ((HB.out.cell (World.block_lt_of_cell? w _ hw342_3)).trans hw342_3)⟩ (fun hHeld => ?_)
          clear hK K
          refine norm_ (a' := ?_) ?_ ?_
          rotate_left
          ·show Act.put _ (some 47) _ = _
           simp only [Act.put, List.setIfInBounds_toArray, List.set_cons_zero, List.set_cons_succ, i64_w, i32_w]
           rfl
          refine pure_ (i := 11) (N := some 48) (v := ?_) (a' := ?_) #[true, true, true, true, true, true, true, true, true, true, true, true] rfl rfl (any_of HT_.out (by kernel_rfl)) (fun _ _ _ h => h) (Or.inl ⟨by rfl, ?_⟩) ?_ ?_
          rotate_left
          ·intro w'
           go_simp
           with_reducible rfl
          rotate_left
          ·simp only [Act.put, List.setIfInBounds_toArray, List.set_cons_zero, List.set_cons_succ, i64_w, i32_w]
           rfl
          refine done_ (done_of HT_.out (by kernel_rfl)) ?_
          try go_wp2
          go_roundg k2
          case measure => have := HJ2.out; have := HK2.out; omega
          case rel => exact ⟨(wrap64 (x7_2 + 1)), (by first | rfl | (simp; done) | (simp [*]; done)), H', ⟨by have := HJ2.out; have := HK2.out; omega⟩, ⟨by repeat (first | (with_reducible first | exact HB.out | apply below_alloc | apply pw_below_drewN | apply below_drew1) | exact HB.out)⟩⟩
        ·rw [if_neg c17] at H
         exact absurd H (by simp)
       ·rw [if_neg c16] at H
        have c16b0 : decide (x7_2 < (l0.length : Int)) = false := decide_eq_false c16
        clear c16
        replace H := Option.bind_eq_some_iff.mp H
        obtain ⟨t344, A270, H⟩ := H
        replace H : (if t344 = true then ((emit_Parse.f k2 t336).bind fun bt346 => ((dactyllaw10_awake.f).bind fun t350 => (if t350 = true then (if t337 = 0 then ((dactylref10_Text.f k2 l0).bind fun t351 => (if t336.toList = t351.toList then (if bt346.2 = 0 then ((dactylref10_Joined.f k2 l0).bind fun t352 => ((dactylref10_Same.f k2 bt346.1 t352).bind fun t355 => (if t355 = true then ((emit_Skeleton.f k2 l0).bind fun t356 => ((dactylref10_Skeleton.f k2 l0).bind fun t359 => ((dactylref10_Same.f k2 t356 t359).bind fun t362 => (some t362)))) else (some false)))) else (some false)) else (some false))) else (some false)) else (some false)))) else ((dactyllaw10_awake.f).bind fun t345 => (if t345 = true then (if t336.toList = ([] : List UInt8) then (some (t337 == 2)) else (some false)) else (some false)))) = some r := H
        have A27 := Aside0.mk A270
        clear A270
        by_cases c28 : t344 = true
        ·subst c28
         have H1 : ((emit_Parse.f k2 t336).bind fun bt346 => ((dactyllaw10_awake.f).bind fun t350 => (if t350 = true then (if t337 = 0 then ((dactylref10_Text.f k2 l0).bind fun t351 => (if t336.toList = t351.toList then (if bt346.2 = 0 then ((dactylref10_Joined.f k2 l0).bind fun t352 => ((dactylref10_Same.f k2 bt346.1 t352).bind fun t355 => (if t355 = true then ((emit_Skeleton.f k2 l0).bind fun t356 => ((dactylref10_Skeleton.f k2 l0).bind fun t359 => ((dactylref10_Same.f k2 t356 t359).bind fun t362 => (some t362)))) else (some false)))) else (some false)) else (some false))) else (some false)) else (some false)))) = some r := by rw [if_pos rfl] at H; exact H
         clear H
         have H := H1
         clear H1
         replace H := Option.bind_eq_some_iff.mp H
         obtain ⟨⟨t346, t347⟩, A290, H⟩ := H
         replace H : ((dactyllaw10_awake.f).bind fun t350 => (if t350 = true then (if t337 = 0 then ((dactylref10_Text.f k2 l0).bind fun t351 => (if t336.toList = t351.toList then (if t347 = 0 then ((dactylref10_Joined.f k2 l0).bind fun t352 => ((dactylref10_Same.f k2 t346 t352).bind fun t355 => (if t355 = true then ((emit_Skeleton.f k2 l0).bind fun t356 => ((dactylref10_Skeleton.f k2 l0).bind fun t359 => ((dactylref10_Same.f k2 t356 t359).bind fun t362 => (some t362)))) else (some false)))) else (some false)) else (some false))) else (some false)) else (some false))) = some r := H
         have A29 := Aside0.mk A290
         clear A290
         replace H := Option.bind_eq_some_iff.mp H
         obtain ⟨t350, A300, H⟩ := H
         replace H : (if t350 = true then (if t337 = 0 then ((dactylref10_Text.f k2 l0).bind fun t351 => (if t336.toList = t351.toList then (if t347 = 0 then ((dactylref10_Joined.f k2 l0).bind fun t352 => ((dactylref10_Same.f k2 t346 t352).bind fun t355 => (if t355 = true then ((emit_Skeleton.f k2 l0).bind fun t356 => ((dactylref10_Skeleton.f k2 l0).bind fun t359 => ((dactylref10_Same.f k2 t356 t359).bind fun t362 => (some t362)))) else (some false)))) else (some false)) else (some false))) else (some false)) else (some false)) = some r := H
         have A30 := Aside0.mk A300
         clear A300
         by_cases c31 : t350 = true
         ·subst c31
          have H1 : (if t337 = 0 then ((dactylref10_Text.f k2 l0).bind fun t351 => (if t336.toList = t351.toList then (if t347 = 0 then ((dactylref10_Joined.f k2 l0).bind fun t352 => ((dactylref10_Same.f k2 t346 t352).bind fun t355 => (if t355 = true then ((emit_Skeleton.f k2 l0).bind fun t356 => ((dactylref10_Skeleton.f k2 l0).bind fun t359 => ((dactylref10_Same.f k2 t356 t359).bind fun t362 => (some t362)))) else (some false)))) else (some false)) else (some false))) else (some false)) = some r := by rw [if_pos rfl] at H; exact H
          clear H
          have H := H1
          clear H1
          by_cases c32 : t337 = 0
          ·rw [if_pos c32] at H
           have c32b0 : (t337 == 0) = true := beq_iff_eq.mpr c32
           have c32b1 : (t337 != 0) = false := bne_eq_false_iff_eq.mpr c32
           clear c32
           replace H := Option.bind_eq_some_iff.mp H
           obtain ⟨t351, A330, H⟩ := H
           replace H : (if t336.toList = t351.toList then (if t347 = 0 then ((dactylref10_Joined.f k2 l0).bind fun t352 => ((dactylref10_Same.f k2 t346 t352).bind fun t355 => (if t355 = true then ((emit_Skeleton.f k2 l0).bind fun t356 => ((dactylref10_Skeleton.f k2 l0).bind fun t359 => ((dactylref10_Same.f k2 t356 t359).bind fun t362 => (some t362)))) else (some false)))) else (some false)) else (some false)) = some r := H
           have A33 := Aside0.mk A330
           clear A330
           by_cases c34 : t336.toList = t351.toList
           ·rw [if_pos c34] at H
            have c34b0 : (t336.toList == t351.toList) = true := beq_iff_eq.mpr c34
            have c34b1 : (t336.toList != t351.toList) = false := bne_eq_false_iff_eq.mpr c34
            clear c34
            by_cases c35 : t347 = 0
            ·rw [if_pos c35] at H
             have c35b0 : (t347 == 0) = true := beq_iff_eq.mpr c35
             have c35b1 : (t347 != 0) = false := bne_eq_false_iff_eq.mpr c35
             clear c35
             replace H := Option.bind_eq_some_iff.mp H
             obtain ⟨t352, A360, H⟩ := H
             replace H : ((dactylref10_Same.f k2 t346 t352).bind fun t355 => (if t355 = true then ((emit_Skeleton.f k2 l0).bind fun t356 => ((dactylref10_Skeleton.f k2 l0).bind fun t359 => ((dactylref10_Same.f k2 t356 t359).bind fun t362 => (some t362)))) else (some false))) = some r := H
             have A36 := Aside0.mk A360
             clear A360
             replace H := Option.bind_eq_some_iff.mp H
             obtain ⟨t355, A370, H⟩ := H
             replace H : (if t355 = true then ((emit_Skeleton.f k2 l0).bind fun t356 => ((dactylref10_Skeleton.f k2 l0).bind fun t359 => ((dactylref10_Same.f k2 t356 t359).bind fun t362 => (some t362)))) else (some false)) = some r := H
             have A37 := Aside0.mk A370
             clear A370
             by_cases c38 : t355 = true
             ·subst c38
              have H1 : ((emit_Skeleton.f k2 l0).bind fun t356 => ((dactylref10_Skeleton.f k2 l0).bind fun t359 => ((dactylref10_Same.f k2 t356 t359).bind fun t362 => (some t362)))) = some r := by rw [if_pos rfl] at H; exact H
              clear H
              have H := H1
              clear H1
              replace H := Option.bind_eq_some_iff.mp H
              obtain ⟨t356, A390, H⟩ := H
              replace H : ((dactylref10_Skeleton.f k2 l0).bind fun t359 => ((dactylref10_Same.f k2 t356 t359).bind fun t362 => (some t362))) = some r := H
              have A39 := Aside0.mk A390
              clear A390
              replace H := Option.bind_eq_some_iff.mp H
              obtain ⟨t359, A400, H⟩ := H
              replace H : ((dactylref10_Same.f k2 t356 t359).bind fun t362 => (some t362)) = some r := H
              have A40 := Aside0.mk A400
              clear A400
              replace H := Option.bind_eq_some_iff.mp H
              obtain ⟨t362, A410, H⟩ := H
              replace H : (some t362) = some r := H
              have A41 := Aside0.mk A410
              clear A410
              obtain rfl := Option.some.inj H
              go_wp2_with (first | ((with_reducible refine gate_callee (f := 14) rfl ?_); refine goesL_ (some 50) rfl rfl Try.func14 (by kernel_rfl) rfl #[.slice A0 l0.length c0] rfl zl ?_; (with_reducible refine (dactylref10_All.calls k2 _ _ l0 true _ ?side1 ?side2 A27.out).mono ?_); (case side1 => repeat (first | exact (Kd.C_below HR0.out HB.out) | (with_reducible refine Kd.C_alloc ?_ _) | (with_reducible refine Kd.C_drewN ?_ _) | (with_reducible refine Kd.C_drew ?_))); (case side2 => exact HC0.out); rintro e w42 ⟨rfl, hb⟩; refine ⟨_, rfl, ?_⟩; have n0_ := Aside0.mk (below_step zb hb); clear HB; have HB := n0_; clear n0_; (try clear hb); (try clear hb2); (try clear hk); (try clear hi)) | ((with_reducible refine gate_callee (f := 15) rfl ?_); refine goesL_ (some 63) rfl rfl Try.func15 (by kernel_rfl) rfl #[.string t336] rfl zl ?_; (with_reducible refine (emit_Parse.calls k2 t336 t346 t347 _ A29.out).mono ?_); rintro e w43 ⟨v348, rfl, ho0, hb⟩; refine ⟨_, rfl, ?_⟩; have n0_ := Aside0.mk (Kd.R_lower ho0 (below_size zb)); have n1_ := Aside0.mk (below_step zb hb); clear HB; have HO349 := n0_; have HB := n1_; clear n0_ n1_; (try clear hb); (try clear hb2); (try clear hk); (try clear hi); (try clear ho0)) | ((with_reducible refine gate_callee (f := 8) rfl ?_); refine goesL_ (some 66) rfl rfl Try.func8 (by kernel_rfl) rfl #[] rfl zl ?_; (with_reducible refine (dactyllaw10_awake.calls  true _ A30.out).mono ?_); rintro e w44 ⟨rfl, hb⟩; refine ⟨_, rfl, ?_⟩; have n0_ := Aside0.mk (Kd.R_below (zk HO349.out) hb); have n1_ := Aside0.mk (below_step zb hb); clear HO349; clear HB; have HO349 := n0_; have HB := n1_; clear n0_ n1_; (try clear hb); (try clear hb2); (try clear hk); (try clear hi)) | (go_at_call 16; (with_reducible refine (dactylref10_Text.calls k2 _ _ l0 t351 _ ?side1 ?side2 A33.out).mono ?_); (case side1 => repeat (first | exact (Kd.C_below HR0.out HB.out) | (with_reducible refine Kd.C_alloc ?_ _) | (with_reducible refine Kd.C_drewN ?_ _) | (with_reducible refine Kd.C_drew ?_))); (case side2 => exact HC0.out); rintro e w45 ⟨rfl, hb⟩; have n0_ := Aside0.mk (Kd.R_below (zk HO349.out) hb); have n1_ := Aside0.mk (below_step zb hb); clear HO349; clear HB; have HO349 := n0_; have HB := n1_; clear n0_ n1_; (try clear hb); (try clear hb2); (try clear hk); (try clear hi)) | (go_at_call 17; (with_reducible refine (dactylref10_Joined.calls k2 _ _ l0 t352 _ ?side1 ?side2 A36.out).mono ?_); (case side1 => repeat (first | exact (Kd.C_below HR0.out HB.out) | (with_reducible refine Kd.C_alloc ?_ _) | (with_reducible refine Kd.C_drewN ?_ _) | (with_reducible refine Kd.C_drew ?_))); (case side2 => exact HC0.out); rintro e w46 ⟨v353, rfl, ho0, hb⟩; have n0_ := Aside0.mk (Kd.R_elder' (zk HO349.out) (Kd.R_base ho0) hb); have n1_ := Aside0.mk (Kd.R_lower (Kd.R_new' ho0 (Kd.R_lt (zk HO349.out))) (below_size zb)); have n2_ := Aside0.mk (below_step zb hb); clear HO349; clear HB; have HO349 := n0_; have HO354 := n1_; have HB := n2_; clear n0_ n1_ n2_; (try clear hb); (try clear hb2); (try clear hk); (try clear hi); (try clear ho0); obtain ⟨Ao47, co47, eo47⟩ := Kd.R_slice HO349.out; subst eo47; obtain ⟨Ao48, co48, eo48⟩ := Kd.R_slice HO354.out; subst eo48) | (go_at_call 11; (with_reducible refine (dactylref10_Same.calls k2 _ _ t346 _ _ t352 true _ ?side1 ?side2 ?side3 ?side4 A37.out).mono ?_); (case side1 => repeat (first | exact (Kd.R_reads' HO349.out).2.2 | (with_reducible refine Kd.C_alloc ?_ _) | (with_reducible refine Kd.C_drewN ?_ _) | (with_reducible refine Kd.C_drew ?_))); (case side2 => exact (Kd.R_reads' HO349.out).2.1); (case side3 => repeat (first | exact (Kd.R_reads' HO354.out).2.2 | (with_reducible refine Kd.C_alloc ?_ _) | (with_reducible refine Kd.C_drewN ?_ _) | (with_reducible refine Kd.C_drew ?_))); (case side4 => exact (Kd.R_reads' HO354.out).2.1); rintro e w' ⟨rfl, ⟨nd, rfl⟩⟩) | (go_at_call 18; (with_reducible refine (emit_Skeleton.calls k2 _ _ l0 t356 _ ?side1 ?side2 A39.out).mono ?_); (case side1 => repeat (first | exact (Kd.C_below HR0.out zb) | (with_reducible refine Kd.C_alloc ?_ _) | (with_reducible refine Kd.C_drewN ?_ _) | (with_reducible refine Kd.C_drew ?_))); (case side2 => exact HC0.out); rintro e w49 ⟨v357, rfl, ho0, hb⟩; have n0_ := Aside0.mk (Kd.R_elder' (zk HO349.out) (Kd.R_base ho0) hb); have n1_ := Aside0.mk (Kd.R_elder' (zk HO354.out) (Kd.R_base ho0) hb); have n2_ := Aside0.mk (Kd.R_lower (Kd.R_new' (Kd.R_new' ho0 (Kd.R_lt (zk HO349.out))) (Kd.R_lt (zk HO354.out))) (below_size zb)); have n3_ := Aside0.mk (below_step zb hb); clear HO349; clear HO354; clear HB; have HO349 := n0_; have HO354 := n1_; have HO358 := n2_; have HB := n3_; clear n0_ n1_ n2_ n3_; (try clear hb); (try clear hb2); (try clear hk); (try clear hi); (try clear ho0)) | (go_at_call 19; (with_reducible refine (dactylref10_Skeleton.calls k2 _ _ l0 t359 _ ?side1 ?side2 A40.out).mono ?_); (case side1 => repeat (first | exact (Kd.C_below HR0.out HB.out) | (with_reducible refine Kd.C_alloc ?_ _) | (with_reducible refine Kd.C_drewN ?_ _) | (with_reducible refine Kd.C_drew ?_))); (case side2 => exact HC0.out); rintro e w50 ⟨v360, rfl, ho0, hb⟩; have n0_ := Aside0.mk (Kd.R_elder' (zk HO349.out) (Kd.R_base ho0) hb); have n1_ := Aside0.mk (Kd.R_elder' (zk HO354.out) (Kd.R_base ho0) hb); have n2_ := Aside0.mk (Kd.R_elder' (zk HO358.out) (Kd.R_base ho0) hb); have n3_ := Aside0.mk (Kd.R_lower (Kd.R_new' (Kd.R_new' (Kd.R_new' ho0 (Kd.R_lt (zk HO349.out))) (Kd.R_lt (zk HO354.out))) (Kd.R_lt (zk HO358.out))) (below_size zb)); have n4_ := Aside0.mk (below_step zb hb); clear HO349; clear HO354; clear HO358; clear HB; have HO349 := n0_; have HO354 := n1_; have HO358 := n2_; have HO361 := n3_; have HB := n4_; clear n0_ n1_ n2_ n3_ n4_; (try clear hb); (try clear hb2); (try clear hk); (try clear hi); (try clear ho0); obtain ⟨Ao51, co51, eo51⟩ := Kd.R_slice HO358.out; subst eo51; obtain ⟨Ao52, co52, eo52⟩ := Kd.R_slice HO361.out; subst eo52) | (go_at_call 11; (with_reducible refine (dactylref10_Same.calls k2 _ _ t356 _ _ t359 t362 _ ?side1 ?side2 ?side3 ?side4 A41.out).mono ?_); (case side1 => repeat (first | exact (Kd.R_reads' HO358.out).2.2 | (with_reducible refine Kd.C_alloc ?_ _) | (with_reducible refine Kd.C_drewN ?_ _) | (with_reducible refine Kd.C_drew ?_))); (case side2 => exact (Kd.R_reads' HO358.out).2.1); (case side3 => repeat (first | exact (Kd.R_reads' HO361.out).2.2 | (with_reducible refine Kd.C_alloc ?_ _) | (with_reducible refine Kd.C_drewN ?_ _) | (with_reducible refine Kd.C_drew ?_))); (case side4 => exact (Kd.R_reads' HO361.out).2.1); rintro e w' ⟨rfl, ⟨nd, rfl⟩⟩))
              go_ret
              exact ⟨zr, zb⟩
             ·replace c38 := Bool.eq_false_iff.mpr c38
              subst c38
              have H1 : (some false) = some r := by rw [if_neg (show ¬ (false = true) by decide)] at H; exact H
              clear H
              have H := H1
              clear H1
              obtain rfl := Option.some.inj H
              go_wp2_with (first | ((with_reducible refine gate_callee (f := 14) rfl ?_); refine goesL_ (some 50) rfl rfl Try.func14 (by kernel_rfl) rfl #[.slice A0 l0.length c0] rfl zl ?_; (with_reducible refine (dactylref10_All.calls k2 _ _ l0 true _ ?side1 ?side2 A27.out).mono ?_); (case side1 => repeat (first | exact (Kd.C_below HR0.out HB.out) | (with_reducible refine Kd.C_alloc ?_ _) | (with_reducible refine Kd.C_drewN ?_ _) | (with_reducible refine Kd.C_drew ?_))); (case side2 => exact HC0.out); rintro e w53 ⟨rfl, hb⟩; refine ⟨_, rfl, ?_⟩; have n0_ := Aside0.mk (below_step zb hb); clear HB; have HB := n0_; clear n0_; (try clear hb); (try clear hb2); (try clear hk); (try clear hi)) | ((with_reducible refine gate_callee (f := 15) rfl ?_); refine goesL_ (some 63) rfl rfl Try.func15 (by kernel_rfl) rfl #[.string t336] rfl zl ?_; (with_reducible refine (emit_Parse.calls k2 t336 t346 t347 _ A29.out).mono ?_); rintro e w54 ⟨v348, rfl, ho0, hb⟩; refine ⟨_, rfl, ?_⟩; have n0_ := Aside0.mk (Kd.R_lower ho0 (below_size zb)); have n1_ := Aside0.mk (below_step zb hb); clear HB; have HO349 := n0_; have HB := n1_; clear n0_ n1_; (try clear hb); (try clear hb2); (try clear hk); (try clear hi); (try clear ho0)) | ((with_reducible refine gate_callee (f := 8) rfl ?_); refine goesL_ (some 66) rfl rfl Try.func8 (by kernel_rfl) rfl #[] rfl zl ?_; (with_reducible refine (dactyllaw10_awake.calls  true _ A30.out).mono ?_); rintro e w55 ⟨rfl, hb⟩; refine ⟨_, rfl, ?_⟩; have n0_ := Aside0.mk (Kd.R_below (zk HO349.out) hb); have n1_ := Aside0.mk (below_step zb hb); clear HO349; clear HB; have HO349 := n0_; have HB := n1_; clear n0_ n1_; (try clear hb); (try clear hb2); (try clear hk); (try clear hi)) | (go_at_call 16; (with_reducible refine (dactylref10_Text.calls k2 _ _ l0 t351 _ ?side1 ?side2 A33.out).mono ?_); (case side1 => repeat (first | exact (Kd.C_below HR0.out HB.out) | (with_reducible refine Kd.C_alloc ?_ _) | (with_reducible refine Kd.C_drewN ?_ _) | (with_reducible refine Kd.C_drew ?_))); (case side2 => exact HC0.out); rintro e w56 ⟨rfl, hb⟩; have n0_ := Aside0.mk (Kd.R_below (zk HO349.out) hb); have n1_ := Aside0.mk (below_step zb hb); clear HO349; clear HB; have HO349 := n0_; have HB := n1_; clear n0_ n1_; (try clear hb); (try clear hb2); (try clear hk); (try clear hi)) | (go_at_call 17; (with_reducible refine (dactylref10_Joined.calls k2 _ _ l0 t352 _ ?side1 ?side2 A36.out).mono ?_); (case side1 => repeat (first | exact (Kd.C_below HR0.out HB.out) | (with_reducible refine Kd.C_alloc ?_ _) | (with_reducible refine Kd.C_drewN ?_ _) | (with_reducible refine Kd.C_drew ?_))); (case side2 => exact HC0.out); rintro e w57 ⟨v353, rfl, ho0, hb⟩; have n0_ := Aside0.mk (Kd.R_elder' (zk HO349.out) (Kd.R_base ho0) hb); have n1_ := Aside0.mk (Kd.R_lower (Kd.R_new' ho0 (Kd.R_lt (zk HO349.out))) (below_size zb)); have n2_ := Aside0.mk (below_step zb hb); clear HO349; clear HB; have HO349 := n0_; have HO354 := n1_; have HB := n2_; clear n0_ n1_ n2_; (try clear hb); (try clear hb2); (try clear hk); (try clear hi); (try clear ho0); obtain ⟨Ao58, co58, eo58⟩ := Kd.R_slice HO349.out; subst eo58; obtain ⟨Ao59, co59, eo59⟩ := Kd.R_slice HO354.out; subst eo59) | (go_at_call 11; (with_reducible refine (dactylref10_Same.calls k2 _ _ t346 _ _ t352 false _ ?side1 ?side2 ?side3 ?side4 A37.out).mono ?_); (case side1 => repeat (first | exact (Kd.R_reads' HO349.out).2.2 | (with_reducible refine Kd.C_alloc ?_ _) | (with_reducible refine Kd.C_drewN ?_ _) | (with_reducible refine Kd.C_drew ?_))); (case side2 => exact (Kd.R_reads' HO349.out).2.1); (case side3 => repeat (first | exact (Kd.R_reads' HO354.out).2.2 | (with_reducible refine Kd.C_alloc ?_ _) | (with_reducible refine Kd.C_drewN ?_ _) | (with_reducible refine Kd.C_drew ?_))); (case side4 => exact (Kd.R_reads' HO354.out).2.1); rintro e w' ⟨rfl, ⟨nd, rfl⟩⟩))
              go_ret
              exact ⟨zr, zb⟩
            ·rw [if_neg c35] at H
             have c35b0 : (t347 == 0) = false := beq_eq_false_iff_ne.mpr c35
             have c35b1 : (t347 != 0) = true := bne_iff_ne.mpr c35
             obtain rfl := Option.some.inj H
             go_wp2_with (first | ((with_reducible refine gate_callee (f := 14) rfl ?_); refine goesL_ (some 50) rfl rfl Try.func14 (by kernel_rfl) rfl #[.slice A0 l0.length c0] rfl zl ?_; (with_reducible refine (dactylref10_All.calls k2 _ _ l0 true _ ?side1 ?side2 A27.out).mono ?_); (case side1 => repeat (first | exact (Kd.C_below HR0.out HB.out) | (with_reducible refine Kd.C_alloc ?_ _) | (with_reducible refine Kd.C_drewN ?_ _) | (with_reducible refine Kd.C_drew ?_))); (case side2 => exact HC0.out); rintro e w60 ⟨rfl, hb⟩; refine ⟨_, rfl, ?_⟩; have n0_ := Aside0.mk (below_step zb hb); clear HB; have HB := n0_; clear n0_; (try clear hb); (try clear hb2); (try clear hk); (try clear hi)) | ((with_reducible refine gate_callee (f := 15) rfl ?_); refine goesL_ (some 63) rfl rfl Try.func15 (by kernel_rfl) rfl #[.string t336] rfl zl ?_; (with_reducible refine (emit_Parse.calls k2 t336 t346 t347 _ A29.out).mono ?_); rintro e w61 ⟨v348, rfl, ho0, hb⟩; refine ⟨_, rfl, ?_⟩; have n0_ := Aside0.mk (Kd.R_lower ho0 (below_size zb)); have n1_ := Aside0.mk (below_step zb hb); clear HB; have HO349 := n0_; have HB := n1_; clear n0_ n1_; (try clear hb); (try clear hb2); (try clear hk); (try clear hi); (try clear ho0)) | ((with_reducible refine gate_callee (f := 8) rfl ?_); refine goesL_ (some 66) rfl rfl Try.func8 (by kernel_rfl) rfl #[] rfl zl ?_; (with_reducible refine (dactyllaw10_awake.calls  true _ A30.out).mono ?_); rintro e w62 ⟨rfl, hb⟩; refine ⟨_, rfl, ?_⟩; have n0_ := Aside0.mk (Kd.R_below (zk HO349.out) hb); have n1_ := Aside0.mk (below_step zb hb); clear HO349; clear HB; have HO349 := n0_; have HB := n1_; clear n0_ n1_; (try clear hb); (try clear hb2); (try clear hk); (try clear hi)) | (go_at_call 16; (with_reducible refine (dactylref10_Text.calls k2 _ _ l0 t351 _ ?side1 ?side2 A33.out).mono ?_); (case side1 => repeat (first | exact (Kd.C_below HR0.out HB.out) | (with_reducible refine Kd.C_alloc ?_ _) | (with_reducible refine Kd.C_drewN ?_ _) | (with_reducible refine Kd.C_drew ?_))); (case side2 => exact HC0.out); rintro e w63 ⟨rfl, hb⟩; have n0_ := Aside0.mk (Kd.R_below (zk HO349.out) hb); have n1_ := Aside0.mk (below_step zb hb); clear HO349; clear HB; have HO349 := n0_; have HB := n1_; clear n0_ n1_; (try clear hb); (try clear hb2); (try clear hk); (try clear hi)))
             go_ret
             exact ⟨zr, zb⟩
           ·rw [if_neg c34] at H
            have c34b0 : (t336.toList == t351.toList) = false := beq_eq_false_iff_ne.mpr c34
            have c34b1 : (t336.toList != t351.toList) = true := bne_iff_ne.mpr c34
            obtain rfl := Option.some.inj H
            go_wp2_with (first | ((with_reducible refine gate_callee (f := 14) rfl ?_); refine goesL_ (some 50) rfl rfl Try.func14 (by kernel_rfl) rfl #[.slice A0 l0.length c0] rfl zl ?_; (with_reducible refine (dactylref10_All.calls k2 _ _ l0 true _ ?side1 ?side2 A27.out).mono ?_); (case side1 => repeat (first | exact (Kd.C_below HR0.out HB.out) | (with_reducible refine Kd.C_alloc ?_ _) | (with_reducible refine Kd.C_drewN ?_ _) | (with_reducible refine Kd.C_drew ?_))); (case side2 => exact HC0.out); rintro e w64 ⟨rfl, hb⟩; refine ⟨_, rfl, ?_⟩; have n0_ := Aside0.mk (below_step zb hb); clear HB; have HB := n0_; clear n0_; (try clear hb); (try clear hb2); (try clear hk); (try clear hi)) | ((with_reducible refine gate_callee (f := 15) rfl ?_); refine goesL_ (some 63) rfl rfl Try.func15 (by kernel_rfl) rfl #[.string t336] rfl zl ?_; (with_reducible refine (emit_Parse.calls k2 t336 t346 t347 _ A29.out).mono ?_); rintro e w65 ⟨v348, rfl, ho0, hb⟩; refine ⟨_, rfl, ?_⟩; have n0_ := Aside0.mk (Kd.R_lower ho0 (below_size zb)); have n1_ := Aside0.mk (below_step zb hb); clear HB; have HO349 := n0_; have HB := n1_; clear n0_ n1_; (try clear hb); (try clear hb2); (try clear hk); (try clear hi); (try clear ho0)) | ((with_reducible refine gate_callee (f := 8) rfl ?_); refine goesL_ (some 66) rfl rfl Try.func8 (by kernel_rfl) rfl #[] rfl zl ?_; (with_reducible refine (dactyllaw10_awake.calls  true _ A30.out).mono ?_); rintro e w66 ⟨rfl, hb⟩; refine ⟨_, rfl, ?_⟩; have n0_ := Aside0.mk (Kd.R_below (zk HO349.out) hb); have n1_ := Aside0.mk (below_step zb hb); clear HO349; clear HB; have HO349 := n0_; have HB := n1_; clear n0_ n1_; (try clear hb); (try clear hb2); (try clear hk); (try clear hi)) | (go_at_call 16; (with_reducible refine (dactylref10_Text.calls k2 _ _ l0 t351 _ ?side1 ?side2 A33.out).mono ?_); (case side1 => repeat (first | exact (Kd.C_below HR0.out HB.out) | (with_reducible refine Kd.C_alloc ?_ _) | (with_reducible refine Kd.C_drewN ?_ _) | (with_reducible refine Kd.C_drew ?_))); (case side2 => exact HC0.out); rintro e w67 ⟨rfl, hb⟩; have n0_ := Aside0.mk (Kd.R_below (zk HO349.out) hb); have n1_ := Aside0.mk (below_step zb hb); clear HO349; clear HB; have HO349 := n0_; have HB := n1_; clear n0_ n1_; (try clear hb); (try clear hb2); (try clear hk); (try clear hi)))
            go_ret
            exact ⟨zr, zb⟩
          ·rw [if_neg c32] at H
           have c32b0 : (t337 == 0) = false := beq_eq_false_iff_ne.mpr c32
           have c32b1 : (t337 != 0) = true := bne_iff_ne.mpr c32
           obtain rfl := Option.some.inj H
           go_wp2_with (first | ((with_reducible refine gate_callee (f := 14) rfl ?_); refine goesL_ (some 50) rfl rfl Try.func14 (by kernel_rfl) rfl #[.slice A0 l0.length c0] rfl zl ?_; (with_reducible refine (dactylref10_All.calls k2 _ _ l0 true _ ?side1 ?side2 A27.out).mono ?_); (case side1 => repeat (first | exact (Kd.C_below HR0.out HB.out) | (with_reducible refine Kd.C_alloc ?_ _) | (with_reducible refine Kd.C_drewN ?_ _) | (with_reducible refine Kd.C_drew ?_))); (case side2 => exact HC0.out); rintro e w68 ⟨rfl, hb⟩; refine ⟨_, rfl, ?_⟩; have n0_ := Aside0.mk (below_step zb hb); clear HB; have HB := n0_; clear n0_; (try clear hb); (try clear hb2); (try clear hk); (try clear hi)) | ((with_reducible refine gate_callee (f := 15) rfl ?_); refine goesL_ (some 63) rfl rfl Try.func15 (by kernel_rfl) rfl #[.string t336] rfl zl ?_; (with_reducible refine (emit_Parse.calls k2 t336 t346 t347 _ A29.out).mono ?_); rintro e w69 ⟨v348, rfl, ho0, hb⟩; refine ⟨_, rfl, ?_⟩; have n0_ := Aside0.mk (Kd.R_lower ho0 (below_size zb)); have n1_ := Aside0.mk (below_step zb hb); clear HB; have HO349 := n0_; have HB := n1_; clear n0_ n1_; (try clear hb); (try clear hb2); (try clear hk); (try clear hi); (try clear ho0)) | ((with_reducible refine gate_callee (f := 8) rfl ?_); refine goesL_ (some 66) rfl rfl Try.func8 (by kernel_rfl) rfl #[] rfl zl ?_; (with_reducible refine (dactyllaw10_awake.calls  true _ A30.out).mono ?_); rintro e w70 ⟨rfl, hb⟩; refine ⟨_, rfl, ?_⟩; have n0_ := Aside0.mk (Kd.R_below (zk HO349.out) hb); have n1_ := Aside0.mk (below_step zb hb); clear HO349; clear HB; have HO349 := n0_; have HB := n1_; clear n0_ n1_; (try clear hb); (try clear hb2); (try clear hk); (try clear hi)))
           go_ret
           exact ⟨zr, zb⟩
         ·replace c31 := Bool.eq_false_iff.mpr c31
          subst c31
          have H1 : (some false) = some r := by rw [if_neg (show ¬ (false = true) by decide)] at H; exact H
          clear H
          have H := H1
          clear H1
          obtain rfl := Option.some.inj H
          go_wp2_with (first | ((with_reducible refine gate_callee (f := 14) rfl ?_); refine goesL_ (some 50) rfl rfl Try.func14 (by kernel_rfl) rfl #[.slice A0 l0.length c0] rfl zl ?_; (with_reducible refine (dactylref10_All.calls k2 _ _ l0 true _ ?side1 ?side2 A27.out).mono ?_); (case side1 => repeat (first | exact (Kd.C_below HR0.out HB.out) | (with_reducible refine Kd.C_alloc ?_ _) | (with_reducible refine Kd.C_drewN ?_ _) | (with_reducible refine Kd.C_drew ?_))); (case side2 => exact HC0.out); rintro e w71 ⟨rfl, hb⟩; refine ⟨_, rfl, ?_⟩; have n0_ := Aside0.mk (below_step zb hb); clear HB; have HB := n0_; clear n0_; (try clear hb); (try clear hb2); (try clear hk); (try clear hi)) | ((with_reducible refine gate_callee (f := 15) rfl ?_); refine goesL_ (some 63) rfl rfl Try.func15 (by kernel_rfl) rfl #[.string t336] rfl zl ?_; (with_reducible refine (emit_Parse.calls k2 t336 t346 t347 _ A29.out).mono ?_); rintro e w72 ⟨v348, rfl, ho0, hb⟩; refine ⟨_, rfl, ?_⟩; have n0_ := Aside0.mk (Kd.R_lower ho0 (below_size zb)); have n1_ := Aside0.mk (below_step zb hb); clear HB; have HO349 := n0_; have HB := n1_; clear n0_ n1_; (try clear hb); (try clear hb2); (try clear hk); (try clear hi); (try clear ho0)) | ((with_reducible refine gate_callee (f := 8) rfl ?_); refine goesL_ (some 66) rfl rfl Try.func8 (by kernel_rfl) rfl #[] rfl zl ?_; (with_reducible refine (dactyllaw10_awake.calls  false _ A30.out).mono ?_); rintro e w73 ⟨rfl, hb⟩; refine ⟨_, rfl, ?_⟩; have n0_ := Aside0.mk (Kd.R_below (zk HO349.out) hb); have n1_ := Aside0.mk (below_step zb hb); clear HO349; clear HB; have HO349 := n0_; have HB := n1_; clear n0_ n1_; (try clear hb); (try clear hb2); (try clear hk); (try clear hi)))
          go_ret
          exact ⟨zr, zb⟩
        ·replace c28 := Bool.eq_false_iff.mpr c28
         subst c28
         have H1 : ((dactyllaw10_awake.f).bind fun t345 => (if t345 = true then (if t336.toList = ([] : List UInt8) then (some (t337 == 2)) else (some false)) else (some false))) = some r := by rw [if_neg (show ¬ (false = true) by decide)] at H; exact H
         clear H
         have H := H1
         clear H1
         replace H := Option.bind_eq_some_iff.mp H
         obtain ⟨t345, A740, H⟩ := H
         replace H : (if t345 = true then (if t336.toList = ([] : List UInt8) then (some (t337 == 2)) else (some false)) else (some false)) = some r := H
         have A74 := Aside0.mk A740
         clear A740
         by_cases c75 : t345 = true
         ·subst c75
          have H1 : (if t336.toList = ([] : List UInt8) then (some (t337 == 2)) else (some false)) = some r := by rw [if_pos rfl] at H; exact H
          clear H
          have H := H1
          clear H1
          by_cases c76 : t336.toList = ([] : List UInt8)
          ·rw [if_pos c76] at H
           have c76b0 : (t336.toList == ([] : List UInt8)) = true := beq_iff_eq.mpr c76
           have c76b1 : (t336.toList != ([] : List UInt8)) = false := bne_eq_false_iff_eq.mpr c76
           clear c76
           obtain rfl := Option.some.inj H
           go_wp2_with (first | ((with_reducible refine gate_callee (f := 14) rfl ?_); refine goesL_ (some 50) rfl rfl Try.func14 (by kernel_rfl) rfl #[.slice A0 l0.length c0] rfl zl ?_; (with_reducible refine (dactylref10_All.calls k2 _ _ l0 false _ ?side1 ?side2 A27.out).mono ?_); (case side1 => repeat (first | exact (Kd.C_below HR0.out HB.out) | (with_reducible refine Kd.C_alloc ?_ _) | (with_reducible refine Kd.C_drewN ?_ _) | (with_reducible refine Kd.C_drew ?_))); (case side2 => exact HC0.out); rintro e w77 ⟨rfl, hb⟩; refine ⟨_, rfl, ?_⟩; have n0_ := Aside0.mk (below_step zb hb); clear HB; have HB := n0_; clear n0_; (try clear hb); (try clear hb2); (try clear hk); (try clear hi)) | ((with_reducible refine gate_callee (f := 8) rfl ?_); refine goesL_ (some 52) rfl rfl Try.func8 (by kernel_rfl) rfl #[] rfl zl ?_; (with_reducible refine (dactyllaw10_awake.calls  true _ A74.out).mono ?_); rintro e w78 ⟨rfl, hb⟩; refine ⟨_, rfl, ?_⟩; have n0_ := Aside0.mk (below_step zb hb); clear HB; have HB := n0_; clear n0_; (try clear hb); (try clear hb2); (try clear hk); (try clear hi)))
           go_ret
           exact ⟨zr, zb⟩
          ·rw [if_neg c76] at H
           have c76b0 : (t336.toList == ([] : List UInt8)) = false := beq_eq_false_iff_ne.mpr c76
           have c76b1 : (t336.toList != ([] : List UInt8)) = true := bne_iff_ne.mpr c76
           obtain rfl := Option.some.inj H
           go_wp2_with (first | ((with_reducible refine gate_callee (f := 14) rfl ?_); refine goesL_ (some 50) rfl rfl Try.func14 (by kernel_rfl) rfl #[.slice A0 l0.length c0] rfl zl ?_; (with_reducible refine (dactylref10_All.calls k2 _ _ l0 false _ ?side1 ?side2 A27.out).mono ?_); (case side1 => repeat (first | exact (Kd.C_below HR0.out HB.out) | (with_reducible refine Kd.C_alloc ?_ _) | (with_reducible refine Kd.C_drewN ?_ _) | (with_reducible refine Kd.C_drew ?_))); (case side2 => exact HC0.out); rintro e w79 ⟨rfl, hb⟩; refine ⟨_, rfl, ?_⟩; have n0_ := Aside0.mk (below_step zb hb); clear HB; have HB := n0_; clear n0_; (try clear hb); (try clear hb2); (try clear hk); (try clear hi)) | ((with_reducible refine gate_callee (f := 8) rfl ?_); refine goesL_ (some 52) rfl rfl Try.func8 (by kernel_rfl) rfl #[] rfl zl ?_; (with_reducible refine (dactyllaw10_awake.calls  true _ A74.out).mono ?_); rintro e w80 ⟨rfl, hb⟩; refine ⟨_, rfl, ?_⟩; have n0_ := Aside0.mk (below_step zb hb); clear HB; have HB := n0_; clear n0_; (try clear hb); (try clear hb2); (try clear hk); (try clear hi)))
           go_ret
           exact ⟨zr, zb⟩
         ·replace c75 := Bool.eq_false_iff.mpr c75
          subst c75
          have H1 : (some false) = some r := by rw [if_neg (show ¬ (false = true) by decide)] at H; exact H
          clear H
          have H := H1
          clear H1
          obtain rfl := Option.some.inj H
          go_wp2_with (first | ((with_reducible refine gate_callee (f := 14) rfl ?_); refine goesL_ (some 50) rfl rfl Try.func14 (by kernel_rfl) rfl #[.slice A0 l0.length c0] rfl zl ?_; (with_reducible refine (dactylref10_All.calls k2 _ _ l0 false _ ?side1 ?side2 A27.out).mono ?_); (case side1 => repeat (first | exact (Kd.C_below HR0.out HB.out) | (with_reducible refine Kd.C_alloc ?_ _) | (with_reducible refine Kd.C_drewN ?_ _) | (with_reducible refine Kd.C_drew ?_))); (case side2 => exact HC0.out); rintro e w81 ⟨rfl, hb⟩; refine ⟨_, rfl, ?_⟩; have n0_ := Aside0.mk (below_step zb hb); clear HB; have HB := n0_; clear n0_; (try clear hb); (try clear hb2); (try clear hk); (try clear hi)) | ((with_reducible refine gate_callee (f := 8) rfl ?_); refine goesL_ (some 52) rfl rfl Try.func8 (by kernel_rfl) rfl #[] rfl zl ?_; (with_reducible refine (dactyllaw10_awake.calls  false _ A74.out).mono ?_); rintro e w82 ⟨rfl, hb⟩; refine ⟨_, rfl, ?_⟩; have n0_ := Aside0.mk (below_step zb hb); clear HB; have HB := n0_; clear n0_; (try clear hb); (try clear hb2); (try clear hk); (try clear hi)))
          go_ret
          exact ⟨zr, zb⟩

end Go.Proofs.Ytddkmhkglmcihaa.PAll
