-- Printed for this claim by the session's own program (wip/tool/hprint.py) over the kit's print; some functions' texts are the session's own.
import Derived.Test.YtddkmhkglmcihaaPAllx0
import Derived.Test.YtddkmhkglmcihaaPAllx8
import Derived.Test.YtddkmhkglmcihaaPAllx9
import Derived.Test.YtddkmhkglmcihaaPAllx10
import Derived.Test.YtddkmhkglmcihaaPAllx11
import Derived.Test.YtddkmhkglmcihaaPAllx12
import Derived.Test.YtddkmhkglmcihaaPAllx13
import Derived.Test.YtddkmhkglmcihaaPAllx14
namespace Go.Proofs.Ytddkmhkglmcihaa.PAll
open Go.RowKit Go.Proofs.YtddkmhkglmcihaaW.PrintWords Go.Proofs.YtddkmhkglmcihaaW.PrintLast Go.Proofs.YtddkmhkglmcihaaW.PrintMore
attribute [local go_sem] max2_int min2_int max_two min_two max_three min_three max_four min_four   -- for this text's walks alone
set_option linter.unusedVariables false
set_option linter.unusedSimpArgs false

/-! ### dactyllaw10_EmitParses: function 4 -/
def dactyllaw10_EmitParses.f (k : Nat) (a0 : ByteArray) : Option (Bool) := if (a0.size : Int) > 500 then ((dactyllaw10_awake.f).bind fun t315 => (some t315)) else ((emit_Parse.f k a0).bind fun bt316 => ((emit_Clean.f k a0).bind fun t320 => (if (t320 != (bt316.2 == 0)) = true then (some false) else (if bt316.2 = 0 then ((dactyllaw10_awake.f).bind fun t322 => (if t322 = true then ((dactylref10_All.f k bt316.1).bind fun t323 => (if t323 = true then ((dactylref10_Text.f k bt316.1).bind fun t324 => (if t324.toList = a0.toList then ((dactylref10_Joined.f k bt316.1).bind fun t325 => ((dactylref10_Same.f k bt316.1 t325).bind fun t328 => (some t328))) else (some false))) else (some false))) else (some false))) else ((dactyllaw10_awake.f).bind fun t321 => (if t321 = true then (if bt316.2 = 6 then (some ((bt316.1.length : Int) == 0)) else (some false)) else (some false)))))))
theorem dactyllaw10_EmitParses.mono : ∀ a0 k, LeO (dactyllaw10_EmitParses.f k a0) (dactyllaw10_EmitParses.f (k + 1) a0) := by
 intro a0 k
 unfold dactyllaw10_EmitParses.f
 repeat' first
   | (with_reducible exact dactylref10_All.mono _ _)
   | (with_reducible exact dactylref10_Joined.mono _ _)
   | (with_reducible exact dactylref10_Same.mono _ _ _)
   | (with_reducible exact dactylref10_Text.mono _ _)
   | (with_reducible exact emit_Clean.mono _ _)
   | (with_reducible exact emit_Parse.mono _ _)
   | (with_reducible exact LeO.refl _)
   | (with_reducible exact LeO.none _)
   | (with_reducible refine LeO.ite ?_ ?_)
   | (with_reducible refine LeO.bind ?_ (fun _ => ?_))
   | exact dactylref10_All.mono _ _
   | exact dactylref10_Joined.mono _ _
   | exact dactylref10_Same.mono _ _ _
   | exact dactylref10_Text.mono _ _
   | exact emit_Clean.mono _ _
   | exact emit_Parse.mono _ _
   | exact LeO.none _
   | refine LeO.ite ?_ ?_
   | refine LeO.bind ?_ (fun _ => ?_)
set_option maxHeartbeats 8000000 in
set_option maxRecDepth 100000 in
theorem dactyllaw10_EmitParses.calls (k : Nat) (a0 : ByteArray) (r : Bool) (w : World) (h : dactyllaw10_EmitParses.f k a0 = some r) :
  Calls Try.prog 4 #[.string a0] w fun e w' => e = .returned (.bool r) ∧ Below w.heap.size w w' := by
 have HB := Aside0.mk (Below.refl w.heap.size w)
 have H : (if (a0.size : Int) > 500 then ((dactyllaw10_awake.f).bind fun t315 => (some t315)) else ((emit_Parse.f k a0).bind fun bt316 => ((emit_Clean.f k a0).bind fun t320 => (if (t320 != (bt316.2 == 0)) = true then (some false) else (if bt316.2 = 0 then ((dactyllaw10_awake.f).bind fun t322 => (if t322 = true then ((dactylref10_All.f k bt316.1).bind fun t323 => (if t323 = true then ((dactylref10_Text.f k bt316.1).bind fun t324 => (if t324.toList = a0.toList then ((dactylref10_Joined.f k bt316.1).bind fun t325 => ((dactylref10_Same.f k bt316.1 t325).bind fun t328 => (some t328))) else (some false))) else (some false))) else (some false))) else ((dactyllaw10_awake.f).bind fun t321 => (if t321 = true then (if bt316.2 = 6 then (some ((bt316.1.length : Int) == 0)) else (some false)) else (some false)))))))) = some r := h
 clear h
 by_cases c2 : (a0.size : Int) > 500
 ·rw [if_pos c2] at H
  have c2b0 : decide (500 < (a0.size : Int)) = true := decide_eq_true c2
  have c2b1 : decide (500 < a0.size) = true := decide_eq_true (by omega)
  clear c2
  replace H := Option.bind_eq_some_iff.mp H
  obtain ⟨t315, A30, H⟩ := H
  replace H : (some t315) = some r := H
  have A3 := Aside0.mk A30
  clear A30
  obtain rfl := Option.some.inj H
  go_enter Try.func4, Try.ntmps4
  go_wp2_with (first | ((with_reducible refine gate_callee (f := 8) rfl ?_); refine goesL_ (some 8) rfl rfl Try.func8 (by kernel_rfl) rfl #[] rfl zl ?_; (with_reducible refine (dactyllaw10_awake.calls  t315 _ A3.out).mono ?_); rintro e w4 ⟨rfl, hb⟩; refine ⟨_, rfl, ?_⟩; have n0_ := Aside0.mk (below_step zb hb); clear HB; have HB := n0_; clear n0_; (try clear hb); (try clear hb2); (try clear hk); (try clear hi)))
  go_ret
  exact ⟨zr, zb⟩
 ·rw [if_neg c2] at H
  have c2b0 : decide (500 < (a0.size : Int)) = false := decide_eq_false c2
  have c2b1 : decide (500 < a0.size) = false := decide_eq_false (by omega)
  clear c2
  replace H := Option.bind_eq_some_iff.mp H
  obtain ⟨⟨t316, t317⟩, A50, H⟩ := H
  replace H : ((emit_Clean.f k a0).bind fun t320 => (if (t320 != (t317 == 0)) = true then (some false) else (if t317 = 0 then ((dactyllaw10_awake.f).bind fun t322 => (if t322 = true then ((dactylref10_All.f k t316).bind fun t323 => (if t323 = true then ((dactylref10_Text.f k t316).bind fun t324 => (if t324.toList = a0.toList then ((dactylref10_Joined.f k t316).bind fun t325 => ((dactylref10_Same.f k t316 t325).bind fun t328 => (some t328))) else (some false))) else (some false))) else (some false))) else ((dactyllaw10_awake.f).bind fun t321 => (if t321 = true then (if t317 = 6 then (some ((t316.length : Int) == 0)) else (some false)) else (some false)))))) = some r := H
  have A5 := Aside0.mk A50
  clear A50
  replace H := Option.bind_eq_some_iff.mp H
  obtain ⟨t320, A60, H⟩ := H
  replace H : (if (t320 != (t317 == 0)) = true then (some false) else (if t317 = 0 then ((dactyllaw10_awake.f).bind fun t322 => (if t322 = true then ((dactylref10_All.f k t316).bind fun t323 => (if t323 = true then ((dactylref10_Text.f k t316).bind fun t324 => (if t324.toList = a0.toList then ((dactylref10_Joined.f k t316).bind fun t325 => ((dactylref10_Same.f k t316 t325).bind fun t328 => (some t328))) else (some false))) else (some false))) else (some false))) else ((dactyllaw10_awake.f).bind fun t321 => (if t321 = true then (if t317 = 6 then (some ((t316.length : Int) == 0)) else (some false)) else (some false))))) = some r := H
  have A6 := Aside0.mk A60
  clear A60
  by_cases c7 : (t320 != (t317 == 0)) = true
  ·rw [if_pos c7] at H
   have c7b0 : (t320 != (t317 == 0)) = true := c7
   (try (have c7b1 : decide (t320 = (t317 == 0)) = false := by simpa using c7))
   (try (have c7b2 : (t320 == (t317 == 0)) = false := by simpa using c7))
   (try (have c7b3 : ¬ (t320 = (t317 == 0)) := by simpa using c7))
   clear c7
   obtain rfl := Option.some.inj H
   go_enter Try.func4, Try.ntmps4
   go_wp2_with (first | ((with_reducible refine gate_callee (f := 15) rfl ?_); refine goesL_ (some 11) rfl rfl Try.func15 (by kernel_rfl) rfl #[.string a0] rfl zl ?_; (with_reducible refine (emit_Parse.calls k a0 t316 t317 _ A5.out).mono ?_); rintro e w8 ⟨v318, rfl, ho0, hb⟩; refine ⟨_, rfl, ?_⟩; have n0_ := Aside0.mk (Kd.R_lower ho0 (below_size zb)); have n1_ := Aside0.mk (below_step zb hb); clear HB; have HO319 := n0_; have HB := n1_; clear n0_ n1_; (try clear hb); (try clear hb2); (try clear hk); (try clear hi); (try clear ho0)) | ((with_reducible refine gate_callee (f := 20) rfl ?_); refine goesL_ (some 15) rfl rfl Try.func20 (by kernel_rfl) rfl #[.string a0] rfl zl ?_; (with_reducible refine (emit_Clean.calls k a0 t320 _ A6.out).mono ?_); rintro e w9 ⟨rfl, hb⟩; refine ⟨_, rfl, ?_⟩; have n0_ := Aside0.mk (Kd.R_below (zk HO319.out) hb); have n1_ := Aside0.mk (below_step zb hb); clear HO319; clear HB; have HO319 := n0_; have HB := n1_; clear n0_ n1_; (try clear hb); (try clear hb2); (try clear hk); (try clear hi)))
   go_ret
   exact ⟨zr, zb⟩
  ·rw [if_neg c7] at H
   have c7b0 : (t320 != (t317 == 0)) = false := by simpa using c7
   (try (have c7b1 : decide (t320 = (t317 == 0)) = true := by simpa using c7))
   (try (have c7b2 : (t320 == (t317 == 0)) = true := by simpa using c7))
   clear c7
   by_cases c10 : t317 = 0
   ·rw [if_pos c10] at H
    have c10b0 : (t317 == 0) = true := beq_iff_eq.mpr c10
    have c10b1 : (t317 != 0) = false := bne_eq_false_iff_eq.mpr c10
    have c10b3 : t320 = true := (zt _ _ c7b0).trans c10b0
    clear c10
    replace H := Option.bind_eq_some_iff.mp H
    obtain ⟨t322, A110, H⟩ := H
    replace H : (if t322 = true then ((dactylref10_All.f k t316).bind fun t323 => (if t323 = true then ((dactylref10_Text.f k t316).bind fun t324 => (if t324.toList = a0.toList then ((dactylref10_Joined.f k t316).bind fun t325 => ((dactylref10_Same.f k t316 t325).bind fun t328 => (some t328))) else (some false))) else (some false))) else (some false)) = some r := H
    have A11 := Aside0.mk A110
    clear A110
    by_cases c12 : t322 = true
    ·subst c12
     have H1 : ((dactylref10_All.f k t316).bind fun t323 => (if t323 = true then ((dactylref10_Text.f k t316).bind fun t324 => (if t324.toList = a0.toList then ((dactylref10_Joined.f k t316).bind fun t325 => ((dactylref10_Same.f k t316 t325).bind fun t328 => (some t328))) else (some false))) else (some false))) = some r := by rw [if_pos rfl] at H; exact H
     clear H
     have H := H1
     clear H1
     replace H := Option.bind_eq_some_iff.mp H
     obtain ⟨t323, A130, H⟩ := H
     replace H : (if t323 = true then ((dactylref10_Text.f k t316).bind fun t324 => (if t324.toList = a0.toList then ((dactylref10_Joined.f k t316).bind fun t325 => ((dactylref10_Same.f k t316 t325).bind fun t328 => (some t328))) else (some false))) else (some false)) = some r := H
     have A13 := Aside0.mk A130
     clear A130
     by_cases c14 : t323 = true
     ·subst c14
      have H1 : ((dactylref10_Text.f k t316).bind fun t324 => (if t324.toList = a0.toList then ((dactylref10_Joined.f k t316).bind fun t325 => ((dactylref10_Same.f k t316 t325).bind fun t328 => (some t328))) else (some false))) = some r := by rw [if_pos rfl] at H; exact H
      clear H
      have H := H1
      clear H1
      replace H := Option.bind_eq_some_iff.mp H
      obtain ⟨t324, A150, H⟩ := H
      replace H : (if t324.toList = a0.toList then ((dactylref10_Joined.f k t316).bind fun t325 => ((dactylref10_Same.f k t316 t325).bind fun t328 => (some t328))) else (some false)) = some r := H
      have A15 := Aside0.mk A150
      clear A150
      by_cases c16 : t324.toList = a0.toList
      ·rw [if_pos c16] at H
       have c16b0 : (t324.toList == a0.toList) = true := beq_iff_eq.mpr c16
       have c16b1 : (t324.toList != a0.toList) = false := bne_eq_false_iff_eq.mpr c16
       clear c16
       replace H := Option.bind_eq_some_iff.mp H
       obtain ⟨t325, A170, H⟩ := H
       replace H : ((dactylref10_Same.f k t316 t325).bind fun t328 => (some t328)) = some r := H
       have A17 := Aside0.mk A170
       clear A170
       replace H := Option.bind_eq_some_iff.mp H
       obtain ⟨t328, A180, H⟩ := H
       replace H : (some t328) = some r := H
       have A18 := Aside0.mk A180
       clear A180
       obtain rfl := Option.some.inj H
       go_enter Try.func4, Try.ntmps4
       go_wp2_with (first | ((with_reducible refine gate_callee (f := 15) rfl ?_); refine goesL_ (some 11) rfl rfl Try.func15 (by kernel_rfl) rfl #[.string a0] rfl zl ?_; (with_reducible refine (emit_Parse.calls k a0 t316 t317 _ A5.out).mono ?_); rintro e w19 ⟨v318, rfl, ho0, hb⟩; refine ⟨_, rfl, ?_⟩; have n0_ := Aside0.mk (Kd.R_lower ho0 (below_size zb)); have n1_ := Aside0.mk (below_step zb hb); clear HB; have HO319 := n0_; have HB := n1_; clear n0_ n1_; (try clear hb); (try clear hb2); (try clear hk); (try clear hi); (try clear ho0)) | ((with_reducible refine gate_callee (f := 20) rfl ?_); refine goesL_ (some 15) rfl rfl Try.func20 (by kernel_rfl) rfl #[.string a0] rfl zl ?_; (with_reducible refine (emit_Clean.calls k a0 t320 _ A6.out).mono ?_); rintro e w20 ⟨rfl, hb⟩; refine ⟨_, rfl, ?_⟩; have n0_ := Aside0.mk (Kd.R_below (zk HO319.out) hb); have n1_ := Aside0.mk (below_step zb hb); clear HO319; clear HB; have HO319 := n0_; have HB := n1_; clear n0_ n1_; (try clear hb); (try clear hb2); (try clear hk); (try clear hi)) | ((with_reducible refine gate_callee (f := 8) rfl ?_); refine goesL_ (some 31) rfl rfl Try.func8 (by kernel_rfl) rfl #[] rfl zl ?_; (with_reducible refine (dactyllaw10_awake.calls  true _ A11.out).mono ?_); rintro e w21 ⟨rfl, hb⟩; refine ⟨_, rfl, ?_⟩; have n0_ := Aside0.mk (Kd.R_below (zk HO319.out) hb); have n1_ := Aside0.mk (below_step zb hb); clear HO319; clear HB; have HO319 := n0_; have HB := n1_; clear n0_ n1_; (try clear hb); (try clear hb2); (try clear hk); (try clear hi); obtain ⟨Ao22, co22, eo22⟩ := Kd.R_slice HO319.out; subst eo22) | (go_at_call 14; (with_reducible refine (dactylref10_All.calls k _ _ t316 true _ ?side1 ?side2 A13.out).mono ?_); (case side1 => repeat (first | exact (Kd.R_reads' HO319.out).2.2 | (with_reducible refine Kd.C_alloc ?_ _) | (with_reducible refine Kd.C_drewN ?_ _) | (with_reducible refine Kd.C_drew ?_))); (case side2 => exact (Kd.R_reads' HO319.out).2.1); rintro e w23 ⟨rfl, hb⟩; have n0_ := Aside0.mk (Kd.R_below (zk HO319.out) hb); have n1_ := Aside0.mk (below_step zb hb); clear HO319; clear HB; have HO319 := n0_; have HB := n1_; clear n0_ n1_; (try clear hb); (try clear hb2); (try clear hk); (try clear hi)) | (go_at_call 16; (with_reducible refine (dactylref10_Text.calls k _ _ t316 t324 _ ?side1 ?side2 A15.out).mono ?_); (case side1 => repeat (first | exact (Kd.R_reads' HO319.out).2.2 | (with_reducible refine Kd.C_alloc ?_ _) | (with_reducible refine Kd.C_drewN ?_ _) | (with_reducible refine Kd.C_drew ?_))); (case side2 => exact (Kd.R_reads' HO319.out).2.1); rintro e w24 ⟨rfl, hb⟩; have n0_ := Aside0.mk (Kd.R_below (zk HO319.out) hb); have n1_ := Aside0.mk (below_step zb hb); clear HO319; clear HB; have HO319 := n0_; have HB := n1_; clear n0_ n1_; (try clear hb); (try clear hb2); (try clear hk); (try clear hi)) | (go_at_call 17; (with_reducible refine (dactylref10_Joined.calls k _ _ t316 t325 _ ?side1 ?side2 A17.out).mono ?_); (case side1 => repeat (first | exact (Kd.R_reads' HO319.out).2.2 | (with_reducible refine Kd.C_alloc ?_ _) | (with_reducible refine Kd.C_drewN ?_ _) | (with_reducible refine Kd.C_drew ?_))); (case side2 => exact (Kd.R_reads' HO319.out).2.1); rintro e w25 ⟨v326, rfl, ho0, hb⟩; have n0_ := Aside0.mk (Kd.R_elder' (zk HO319.out) (Kd.R_base ho0) hb); have n1_ := Aside0.mk (Kd.R_lower (Kd.R_new' ho0 (Kd.R_lt (zk HO319.out))) (below_size zb)); have n2_ := Aside0.mk (below_step zb hb); clear HO319; clear HB; have HO319 := n0_; have HO327 := n1_; have HB := n2_; clear n0_ n1_ n2_; (try clear hb); (try clear hb2); (try clear hk); (try clear hi); (try clear ho0); obtain ⟨Ao26, co26, eo26⟩ := Kd.R_slice HO327.out; subst eo26) | (go_at_call 11; (with_reducible refine (dactylref10_Same.calls k _ _ t316 _ _ t325 t328 _ ?side1 ?side2 ?side3 ?side4 A18.out).mono ?_); (case side1 => repeat (first | exact (Kd.R_reads' HO319.out).2.2 | (with_reducible refine Kd.C_alloc ?_ _) | (with_reducible refine Kd.C_drewN ?_ _) | (with_reducible refine Kd.C_drew ?_))); (case side2 => exact (Kd.R_reads' HO319.out).2.1); (case side3 => repeat (first | exact (Kd.R_reads' HO327.out).2.2 | (with_reducible refine Kd.C_alloc ?_ _) | (with_reducible refine Kd.C_drewN ?_ _) | (with_reducible refine Kd.C_drew ?_))); (case side4 => exact (Kd.R_reads' HO327.out).2.1); rintro e w' ⟨rfl, ⟨nd, rfl⟩⟩))
       go_ret
       exact ⟨zr, zb⟩
      ·rw [if_neg c16] at H
       have c16b0 : (t324.toList == a0.toList) = false := beq_eq_false_iff_ne.mpr c16
       have c16b1 : (t324.toList != a0.toList) = true := bne_iff_ne.mpr c16
       obtain rfl := Option.some.inj H
       go_enter Try.func4, Try.ntmps4
       go_wp2_with (first | ((with_reducible refine gate_callee (f := 15) rfl ?_); refine goesL_ (some 11) rfl rfl Try.func15 (by kernel_rfl) rfl #[.string a0] rfl zl ?_; (with_reducible refine (emit_Parse.calls k a0 t316 t317 _ A5.out).mono ?_); rintro e w27 ⟨v318, rfl, ho0, hb⟩; refine ⟨_, rfl, ?_⟩; have n0_ := Aside0.mk (Kd.R_lower ho0 (below_size zb)); have n1_ := Aside0.mk (below_step zb hb); clear HB; have HO319 := n0_; have HB := n1_; clear n0_ n1_; (try clear hb); (try clear hb2); (try clear hk); (try clear hi); (try clear ho0)) | ((with_reducible refine gate_callee (f := 20) rfl ?_); refine goesL_ (some 15) rfl rfl Try.func20 (by kernel_rfl) rfl #[.string a0] rfl zl ?_; (with_reducible refine (emit_Clean.calls k a0 t320 _ A6.out).mono ?_); rintro e w28 ⟨rfl, hb⟩; refine ⟨_, rfl, ?_⟩; have n0_ := Aside0.mk (Kd.R_below (zk HO319.out) hb); have n1_ := Aside0.mk (below_step zb hb); clear HO319; clear HB; have HO319 := n0_; have HB := n1_; clear n0_ n1_; (try clear hb); (try clear hb2); (try clear hk); (try clear hi)) | ((with_reducible refine gate_callee (f := 8) rfl ?_); refine goesL_ (some 31) rfl rfl Try.func8 (by kernel_rfl) rfl #[] rfl zl ?_; (with_reducible refine (dactyllaw10_awake.calls  true _ A11.out).mono ?_); rintro e w29 ⟨rfl, hb⟩; refine ⟨_, rfl, ?_⟩; have n0_ := Aside0.mk (Kd.R_below (zk HO319.out) hb); have n1_ := Aside0.mk (below_step zb hb); clear HO319; clear HB; have HO319 := n0_; have HB := n1_; clear n0_ n1_; (try clear hb); (try clear hb2); (try clear hk); (try clear hi); obtain ⟨Ao30, co30, eo30⟩ := Kd.R_slice HO319.out; subst eo30) | (go_at_call 14; (with_reducible refine (dactylref10_All.calls k _ _ t316 true _ ?side1 ?side2 A13.out).mono ?_); (case side1 => repeat (first | exact (Kd.R_reads' HO319.out).2.2 | (with_reducible refine Kd.C_alloc ?_ _) | (with_reducible refine Kd.C_drewN ?_ _) | (with_reducible refine Kd.C_drew ?_))); (case side2 => exact (Kd.R_reads' HO319.out).2.1); rintro e w31 ⟨rfl, hb⟩; have n0_ := Aside0.mk (Kd.R_below (zk HO319.out) hb); have n1_ := Aside0.mk (below_step zb hb); clear HO319; clear HB; have HO319 := n0_; have HB := n1_; clear n0_ n1_; (try clear hb); (try clear hb2); (try clear hk); (try clear hi)) | (go_at_call 16; (with_reducible refine (dactylref10_Text.calls k _ _ t316 t324 _ ?side1 ?side2 A15.out).mono ?_); (case side1 => repeat (first | exact (Kd.R_reads' HO319.out).2.2 | (with_reducible refine Kd.C_alloc ?_ _) | (with_reducible refine Kd.C_drewN ?_ _) | (with_reducible refine Kd.C_drew ?_))); (case side2 => exact (Kd.R_reads' HO319.out).2.1); rintro e w32 ⟨rfl, hb⟩; have n0_ := Aside0.mk (Kd.R_below (zk HO319.out) hb); have n1_ := Aside0.mk (below_step zb hb); clear HO319; clear HB; have HO319 := n0_; have HB := n1_; clear n0_ n1_; (try clear hb); (try clear hb2); (try clear hk); (try clear hi)))
       go_ret
       exact ⟨zr, zb⟩
     ·replace c14 := Bool.eq_false_iff.mpr c14
      subst c14
      have H1 : (some false) = some r := by rw [if_neg (show ¬ (false = true) by decide)] at H; exact H
      clear H
      have H := H1
      clear H1
      obtain rfl := Option.some.inj H
      go_enter Try.func4, Try.ntmps4
      go_wp2_with (first | ((with_reducible refine gate_callee (f := 15) rfl ?_); refine goesL_ (some 11) rfl rfl Try.func15 (by kernel_rfl) rfl #[.string a0] rfl zl ?_; (with_reducible refine (emit_Parse.calls k a0 t316 t317 _ A5.out).mono ?_); rintro e w33 ⟨v318, rfl, ho0, hb⟩; refine ⟨_, rfl, ?_⟩; have n0_ := Aside0.mk (Kd.R_lower ho0 (below_size zb)); have n1_ := Aside0.mk (below_step zb hb); clear HB; have HO319 := n0_; have HB := n1_; clear n0_ n1_; (try clear hb); (try clear hb2); (try clear hk); (try clear hi); (try clear ho0)) | ((with_reducible refine gate_callee (f := 20) rfl ?_); refine goesL_ (some 15) rfl rfl Try.func20 (by kernel_rfl) rfl #[.string a0] rfl zl ?_; (with_reducible refine (emit_Clean.calls k a0 t320 _ A6.out).mono ?_); rintro e w34 ⟨rfl, hb⟩; refine ⟨_, rfl, ?_⟩; have n0_ := Aside0.mk (Kd.R_below (zk HO319.out) hb); have n1_ := Aside0.mk (below_step zb hb); clear HO319; clear HB; have HO319 := n0_; have HB := n1_; clear n0_ n1_; (try clear hb); (try clear hb2); (try clear hk); (try clear hi)) | ((with_reducible refine gate_callee (f := 8) rfl ?_); refine goesL_ (some 31) rfl rfl Try.func8 (by kernel_rfl) rfl #[] rfl zl ?_; (with_reducible refine (dactyllaw10_awake.calls  true _ A11.out).mono ?_); rintro e w35 ⟨rfl, hb⟩; refine ⟨_, rfl, ?_⟩; have n0_ := Aside0.mk (Kd.R_below (zk HO319.out) hb); have n1_ := Aside0.mk (below_step zb hb); clear HO319; clear HB; have HO319 := n0_; have HB := n1_; clear n0_ n1_; (try clear hb); (try clear hb2); (try clear hk); (try clear hi); obtain ⟨Ao36, co36, eo36⟩ := Kd.R_slice HO319.out; subst eo36) | (go_at_call 14; (with_reducible refine (dactylref10_All.calls k _ _ t316 false _ ?side1 ?side2 A13.out).mono ?_); (case side1 => repeat (first | exact (Kd.R_reads' HO319.out).2.2 | (with_reducible refine Kd.C_alloc ?_ _) | (with_reducible refine Kd.C_drewN ?_ _) | (with_reducible refine Kd.C_drew ?_))); (case side2 => exact (Kd.R_reads' HO319.out).2.1); rintro e w37 ⟨rfl, hb⟩; have n0_ := Aside0.mk (Kd.R_below (zk HO319.out) hb); have n1_ := Aside0.mk (below_step zb hb); clear HO319; clear HB; have HO319 := n0_; have HB := n1_; clear n0_ n1_; (try clear hb); (try clear hb2); (try clear hk); (try clear hi)))
      go_ret
      exact ⟨zr, zb⟩
    ·replace c12 := Bool.eq_false_iff.mpr c12
     subst c12
     have H1 : (some false) = some r := by rw [if_neg (show ¬ (false = true) by decide)] at H; exact H
     clear H
     have H := H1
     clear H1
     obtain rfl := Option.some.inj H
     go_enter Try.func4, Try.ntmps4
     go_wp2_with (first | ((with_reducible refine gate_callee (f := 15) rfl ?_); refine goesL_ (some 11) rfl rfl Try.func15 (by kernel_rfl) rfl #[.string a0] rfl zl ?_; (with_reducible refine (emit_Parse.calls k a0 t316 t317 _ A5.out).mono ?_); rintro e w38 ⟨v318, rfl, ho0, hb⟩; refine ⟨_, rfl, ?_⟩; have n0_ := Aside0.mk (Kd.R_lower ho0 (below_size zb)); have n1_ := Aside0.mk (below_step zb hb); clear HB; have HO319 := n0_; have HB := n1_; clear n0_ n1_; (try clear hb); (try clear hb2); (try clear hk); (try clear hi); (try clear ho0)) | ((with_reducible refine gate_callee (f := 20) rfl ?_); refine goesL_ (some 15) rfl rfl Try.func20 (by kernel_rfl) rfl #[.string a0] rfl zl ?_; (with_reducible refine (emit_Clean.calls k a0 t320 _ A6.out).mono ?_); rintro e w39 ⟨rfl, hb⟩; refine ⟨_, rfl, ?_⟩; have n0_ := Aside0.mk (Kd.R_below (zk HO319.out) hb); have n1_ := Aside0.mk (below_step zb hb); clear HO319; clear HB; have HO319 := n0_; have HB := n1_; clear n0_ n1_; (try clear hb); (try clear hb2); (try clear hk); (try clear hi)) | ((with_reducible refine gate_callee (f := 8) rfl ?_); refine goesL_ (some 31) rfl rfl Try.func8 (by kernel_rfl) rfl #[] rfl zl ?_; (with_reducible refine (dactyllaw10_awake.calls  false _ A11.out).mono ?_); rintro e w40 ⟨rfl, hb⟩; refine ⟨_, rfl, ?_⟩; have n0_ := Aside0.mk (Kd.R_below (zk HO319.out) hb); have n1_ := Aside0.mk (below_step zb hb); clear HO319; clear HB; have HO319 := n0_; have HB := n1_; clear n0_ n1_; (try clear hb); (try clear hb2); (try clear hk); (try clear hi)))
     go_ret
     exact ⟨zr, zb⟩
   ·rw [if_neg c10] at H
    have c10b0 : (t317 == 0) = false := beq_eq_false_iff_ne.mpr c10
    have c10b1 : (t317 != 0) = true := bne_iff_ne.mpr c10
    have c10b3 : t320 = false := (zt _ _ c7b0).trans c10b0
    replace H := Option.bind_eq_some_iff.mp H
    obtain ⟨t321, A410, H⟩ := H
    replace H : (if t321 = true then (if t317 = 6 then (some ((t316.length : Int) == 0)) else (some false)) else (some false)) = some r := H
    have A41 := Aside0.mk A410
    clear A410
    by_cases c42 : t321 = true
    ·subst c42
     have H1 : (if t317 = 6 then (some ((t316.length : Int) == 0)) else (some false)) = some r := by rw [if_pos rfl] at H; exact H
     clear H
     have H := H1
     clear H1
     by_cases c43 : t317 = 6
     ·rw [if_pos c43] at H
      have c43b0 : (t317 == 6) = true := beq_iff_eq.mpr c43
      have c43b1 : (t317 != 6) = false := bne_eq_false_iff_eq.mpr c43
      clear c43
      obtain rfl := Option.some.inj H
      go_enter Try.func4, Try.ntmps4
      go_wp2_with (first | ((with_reducible refine gate_callee (f := 15) rfl ?_); refine goesL_ (some 11) rfl rfl Try.func15 (by kernel_rfl) rfl #[.string a0] rfl zl ?_; (with_reducible refine (emit_Parse.calls k a0 t316 t317 _ A5.out).mono ?_); rintro e w44 ⟨v318, rfl, ho0, hb⟩; refine ⟨_, rfl, ?_⟩; have n0_ := Aside0.mk (Kd.R_lower ho0 (below_size zb)); have n1_ := Aside0.mk (below_step zb hb); clear HB; have HO319 := n0_; have HB := n1_; clear n0_ n1_; (try clear hb); (try clear hb2); (try clear hk); (try clear hi); (try clear ho0)) | ((with_reducible refine gate_callee (f := 20) rfl ?_); refine goesL_ (some 15) rfl rfl Try.func20 (by kernel_rfl) rfl #[.string a0] rfl zl ?_; (with_reducible refine (emit_Clean.calls k a0 t320 _ A6.out).mono ?_); rintro e w45 ⟨rfl, hb⟩; refine ⟨_, rfl, ?_⟩; have n0_ := Aside0.mk (Kd.R_below (zk HO319.out) hb); have n1_ := Aside0.mk (below_step zb hb); clear HO319; clear HB; have HO319 := n0_; have HB := n1_; clear n0_ n1_; (try clear hb); (try clear hb2); (try clear hk); (try clear hi)) | ((with_reducible refine gate_callee (f := 8) rfl ?_); refine goesL_ (some 21) rfl rfl Try.func8 (by kernel_rfl) rfl #[] rfl zl ?_; (with_reducible refine (dactyllaw10_awake.calls  true _ A41.out).mono ?_); rintro e w46 ⟨rfl, hb⟩; refine ⟨_, rfl, ?_⟩; have n0_ := Aside0.mk (Kd.R_below (zk HO319.out) hb); have n1_ := Aside0.mk (below_step zb hb); clear HO319; clear HB; have HO319 := n0_; have HB := n1_; clear n0_ n1_; (try clear hb); (try clear hb2); (try clear hk); (try clear hi); obtain ⟨Ao47, co47, eo47⟩ := Kd.R_slice HO319.out; subst eo47))
      go_ret
      exact ⟨zr, zb⟩
     ·rw [if_neg c43] at H
      have c43b0 : (t317 == 6) = false := beq_eq_false_iff_ne.mpr c43
      have c43b1 : (t317 != 6) = true := bne_iff_ne.mpr c43
      obtain rfl := Option.some.inj H
      go_enter Try.func4, Try.ntmps4
      go_wp2_with (first | ((with_reducible refine gate_callee (f := 15) rfl ?_); refine goesL_ (some 11) rfl rfl Try.func15 (by kernel_rfl) rfl #[.string a0] rfl zl ?_; (with_reducible refine (emit_Parse.calls k a0 t316 t317 _ A5.out).mono ?_); rintro e w48 ⟨v318, rfl, ho0, hb⟩; refine ⟨_, rfl, ?_⟩; have n0_ := Aside0.mk (Kd.R_lower ho0 (below_size zb)); have n1_ := Aside0.mk (below_step zb hb); clear HB; have HO319 := n0_; have HB := n1_; clear n0_ n1_; (try clear hb); (try clear hb2); (try clear hk); (try clear hi); (try clear ho0)) | ((with_reducible refine gate_callee (f := 20) rfl ?_); refine goesL_ (some 15) rfl rfl Try.func20 (by kernel_rfl) rfl #[.string a0] rfl zl ?_; (with_reducible refine (emit_Clean.calls k a0 t320 _ A6.out).mono ?_); rintro e w49 ⟨rfl, hb⟩; refine ⟨_, rfl, ?_⟩; have n0_ := Aside0.mk (Kd.R_below (zk HO319.out) hb); have n1_ := Aside0.mk (below_step zb hb); clear HO319; clear HB; have HO319 := n0_; have HB := n1_; clear n0_ n1_; (try clear hb); (try clear hb2); (try clear hk); (try clear hi)) | ((with_reducible refine gate_callee (f := 8) rfl ?_); refine goesL_ (some 21) rfl rfl Try.func8 (by kernel_rfl) rfl #[] rfl zl ?_; (with_reducible refine (dactyllaw10_awake.calls  true _ A41.out).mono ?_); rintro e w50 ⟨rfl, hb⟩; refine ⟨_, rfl, ?_⟩; have n0_ := Aside0.mk (Kd.R_below (zk HO319.out) hb); have n1_ := Aside0.mk (below_step zb hb); clear HO319; clear HB; have HO319 := n0_; have HB := n1_; clear n0_ n1_; (try clear hb); (try clear hb2); (try clear hk); (try clear hi)))
      go_ret
      exact ⟨zr, zb⟩
    ·replace c42 := Bool.eq_false_iff.mpr c42
     subst c42
     have H1 : (some false) = some r := by rw [if_neg (show ¬ (false = true) by decide)] at H; exact H
     clear H
     have H := H1
     clear H1
     obtain rfl := Option.some.inj H
     go_enter Try.func4, Try.ntmps4
     go_wp2_with (first | ((with_reducible refine gate_callee (f := 15) rfl ?_); refine goesL_ (some 11) rfl rfl Try.func15 (by kernel_rfl) rfl #[.string a0] rfl zl ?_; (with_reducible refine (emit_Parse.calls k a0 t316 t317 _ A5.out).mono ?_); rintro e w51 ⟨v318, rfl, ho0, hb⟩; refine ⟨_, rfl, ?_⟩; have n0_ := Aside0.mk (Kd.R_lower ho0 (below_size zb)); have n1_ := Aside0.mk (below_step zb hb); clear HB; have HO319 := n0_; have HB := n1_; clear n0_ n1_; (try clear hb); (try clear hb2); (try clear hk); (try clear hi); (try clear ho0)) | ((with_reducible refine gate_callee (f := 20) rfl ?_); refine goesL_ (some 15) rfl rfl Try.func20 (by kernel_rfl) rfl #[.string a0] rfl zl ?_; (with_reducible refine (emit_Clean.calls k a0 t320 _ A6.out).mono ?_); rintro e w52 ⟨rfl, hb⟩; refine ⟨_, rfl, ?_⟩; have n0_ := Aside0.mk (Kd.R_below (zk HO319.out) hb); have n1_ := Aside0.mk (below_step zb hb); clear HO319; clear HB; have HO319 := n0_; have HB := n1_; clear n0_ n1_; (try clear hb); (try clear hb2); (try clear hk); (try clear hi)) | ((with_reducible refine gate_callee (f := 8) rfl ?_); refine goesL_ (some 21) rfl rfl Try.func8 (by kernel_rfl) rfl #[] rfl zl ?_; (with_reducible refine (dactyllaw10_awake.calls  false _ A41.out).mono ?_); rintro e w53 ⟨rfl, hb⟩; refine ⟨_, rfl, ?_⟩; have n0_ := Aside0.mk (Kd.R_below (zk HO319.out) hb); have n1_ := Aside0.mk (below_step zb hb); clear HO319; clear HB; have HO319 := n0_; have HB := n1_; clear n0_ n1_; (try clear hb); (try clear hb2); (try clear hk); (try clear hi)))
     go_ret
     exact ⟨zr, zb⟩

/-- THE ONE PURE STATEMENT of dactyllaw10_EmitParses: yours. -/
def dactyllaw10_EmitParses.Pure : Prop := ∀ (a0 : ByteArray), a0.size ≤ 140737488351232 → ∃ k, dactyllaw10_EmitParses.f k a0 = some true
theorem dactyllaw10_EmitParses.walk (P : dactyllaw10_EmitParses.Pure) (a0 : ByteArray) (w : World) (w0 : a0.size ≤ 140737488351232) :
  Calls Try.prog 4 #[.string a0] w fun e w' => e = .returned (.bool true) ∧ Below w.heap.size w w' := by
 obtain ⟨k, h⟩ := P a0 w0
 refine (dactyllaw10_EmitParses.calls k a0 true w h).mono ?_
 rintro e w' ⟨rfl, hd⟩
 exact ⟨rfl, hd⟩

/-! ### dactyllaw10_EmitControls: function 5 -/
mutual
def dactyllaw10_EmitControls.j0 : Nat → ByteArray → Bool → Option (Bool)
 | 0, _, _ => none
 | k + 1, x0, x14 => if x14 = true then ((dactyllaw10_awake.f).bind fun t330 => (some t330)) else (dactyllaw10_EmitControls.l0 k x0 0)
def dactyllaw10_EmitControls.l0 : Nat → ByteArray → Int → Option (Bool)
 | 0, _, _ => none
 | k + 1, x0, x3 => if x3 < (x0.size : Int) then (if 0 ≤ x3 then (if (bt x0 x3) < 32 then (if (bt x0 x3) = 7 then (if (bt x0 x3) = 127 then (some false) else (dactyllaw10_EmitControls.l0 k x0 (wrap64 (x3 + 1)))) else (if (bt x0 x3) = 10 then (if (bt x0 x3) = 127 then (some false) else (dactyllaw10_EmitControls.l0 k x0 (wrap64 (x3 + 1)))) else (if (bt x0 x3) = 13 then (if (bt x0 x3) = 127 then (some false) else (dactyllaw10_EmitControls.l0 k x0 (wrap64 (x3 + 1)))) else (if (bt x0 x3) = 27 then (if (wrap64 (x3 + 1)) = (x0.size : Int) then (some false) else (if 0 ≤ (wrap64 (x3 + 1)) then (if (wrap64 (x3 + 1)) < (x0.size : Int) then (if (bt x0 (wrap64 (x3 + 1))) = 91 then (if (bt x0 x3) = 127 then (some false) else (dactyllaw10_EmitControls.l0 k x0 (wrap64 (x3 + 1)))) else (some false)) else (none)) else (none))) else (some false))))) else (if (bt x0 x3) = 127 then (some false) else (dactyllaw10_EmitControls.l0 k x0 (wrap64 (x3 + 1))))) else (none)) else ((dactylref02_Decode.f k x0).bind fun t331 => (dactyllaw10_EmitControls.l1 k t331 0))
def dactyllaw10_EmitControls.l1 : Nat → List Int → Int → Option (Bool)
 | 0, _, _ => none
 | k + 1, x5, x6 => if x6 < (x5.length : Int) then (if 0 ≤ x6 then ((dactylref03_Of.f k (rd x5 x6)).bind fun t335 => (if t335 > 4 then (some false) else (dactyllaw10_EmitControls.l1 k x5 (wrap64 (x6 + 1))))) else (none)) else ((dactyllaw10_awake.f).bind fun t336 => (some t336))
end
def dactyllaw10_EmitControls.f (k : Nat) (a0 : ByteArray) : Option (Bool) := if (a0.size : Int) > 500 then (dactyllaw10_EmitControls.j0 k a0 true) else ((emit_Clean.f k a0).bind fun t329 => (dactyllaw10_EmitControls.j0 k a0 (!t329)))
theorem dactyllaw10_EmitControls.mono_l : ∀ k, (∀ y0 y1, LeO (dactyllaw10_EmitControls.j0 k y0 y1) (dactyllaw10_EmitControls.j0 (k + 1) y0 y1)) ∧ (∀ y0 y1, LeO (dactyllaw10_EmitControls.l0 k y0 y1) (dactyllaw10_EmitControls.l0 (k + 1) y0 y1)) ∧ (∀ y0 y1, LeO (dactyllaw10_EmitControls.l1 k y0 y1) (dactyllaw10_EmitControls.l1 (k + 1) y0 y1))
 | 0 => ⟨fun _ _ r h => by simp [dactyllaw10_EmitControls.j0] at h, fun _ _ r h => by simp [dactyllaw10_EmitControls.l0] at h, fun _ _ r h => by simp [dactyllaw10_EmitControls.l1] at h⟩
 | k + 1 => by
  obtain ⟨ih0, ih1, ih2⟩ := dactyllaw10_EmitControls.mono_l k
  refine ⟨?_, ?_, ?_⟩
  ·intro y0 y1
   unfold dactyllaw10_EmitControls.j0
   repeat' first
   | (with_reducible exact ih0 _ _)
   | (with_reducible exact ih1 _ _)
   | (with_reducible exact ih2 _ _)
   | (with_reducible exact dactylref02_Decode.mono _ _)
   | (with_reducible exact dactylref03_Of.mono _ _)
   | (with_reducible exact emit_Clean.mono _ _)
   | (with_reducible exact LeO.refl _)
   | (with_reducible exact LeO.none _)
   | (with_reducible refine LeO.ite ?_ ?_)
   | (with_reducible refine LeO.bind ?_ (fun _ => ?_))
   | exact ih0 _ _
   | exact ih1 _ _
   | exact ih2 _ _
   | exact dactylref02_Decode.mono _ _
   | exact dactylref03_Of.mono _ _
   | exact emit_Clean.mono _ _
   | exact LeO.none _
   | refine LeO.ite ?_ ?_
   | refine LeO.bind ?_ (fun _ => ?_)
  ·intro y0 y1
   unfold dactyllaw10_EmitControls.l0
   repeat' first
   | (with_reducible exact ih0 _ _)
   | (with_reducible exact ih1 _ _)
   | (with_reducible exact ih2 _ _)
   | (with_reducible exact dactylref02_Decode.mono _ _)
   | (with_reducible exact dactylref03_Of.mono _ _)
   | (with_reducible exact emit_Clean.mono _ _)
   | (with_reducible exact LeO.refl _)
   | (with_reducible exact LeO.none _)
   | (with_reducible refine LeO.ite ?_ ?_)
   | (with_reducible refine LeO.bind ?_ (fun _ => ?_))
   | exact ih0 _ _
   | exact ih1 _ _
   | exact ih2 _ _
   | exact dactylref02_Decode.mono _ _
   | exact dactylref03_Of.mono _ _
   | exact emit_Clean.mono _ _
   | exact LeO.none _
   | refine LeO.ite ?_ ?_
   | refine LeO.bind ?_ (fun _ => ?_)
  ·intro y0 y1
   unfold dactyllaw10_EmitControls.l1
   repeat' first
   | (with_reducible exact ih0 _ _)
   | (with_reducible exact ih1 _ _)
   | (with_reducible exact ih2 _ _)
   | (with_reducible exact dactylref02_Decode.mono _ _)
   | (with_reducible exact dactylref03_Of.mono _ _)
   | (with_reducible exact emit_Clean.mono _ _)
   | (with_reducible exact LeO.refl _)
   | (with_reducible exact LeO.none _)
   | (with_reducible refine LeO.ite ?_ ?_)
   | (with_reducible refine LeO.bind ?_ (fun _ => ?_))
   | exact ih0 _ _
   | exact ih1 _ _
   | exact ih2 _ _
   | exact dactylref02_Decode.mono _ _
   | exact dactylref03_Of.mono _ _
   | exact emit_Clean.mono _ _
   | exact LeO.none _
   | refine LeO.ite ?_ ?_
   | refine LeO.bind ?_ (fun _ => ?_)
theorem dactyllaw10_EmitControls.mono : ∀ a0 k, LeO (dactyllaw10_EmitControls.f k a0) (dactyllaw10_EmitControls.f (k + 1) a0) := by
 intro a0 k
 obtain ⟨ih0, ih1, ih2⟩ := dactyllaw10_EmitControls.mono_l k
 unfold dactyllaw10_EmitControls.f
 repeat' first
   | (with_reducible exact ih0 _ _)
   | (with_reducible exact ih1 _ _)
   | (with_reducible exact ih2 _ _)
   | (with_reducible exact dactylref02_Decode.mono _ _)
   | (with_reducible exact dactylref03_Of.mono _ _)
   | (with_reducible exact emit_Clean.mono _ _)
   | (with_reducible exact LeO.refl _)
   | (with_reducible exact LeO.none _)
   | (with_reducible refine LeO.ite ?_ ?_)
   | (with_reducible refine LeO.bind ?_ (fun _ => ?_))
   | exact ih0 _ _
   | exact ih1 _ _
   | exact ih2 _ _
   | exact dactylref02_Decode.mono _ _
   | exact dactylref03_Of.mono _ _
   | exact emit_Clean.mono _ _
   | exact LeO.none _
   | refine LeO.ite ?_ ?_
   | refine LeO.bind ?_ (fun _ => ?_)
set_option maxHeartbeats 8000000 in
set_option maxRecDepth 100000 in
theorem dactyllaw10_EmitControls.calls (k : Nat) (a0 : ByteArray) (r : Bool) (w : World) (h : dactyllaw10_EmitControls.f k a0 = some r) :
  Calls Try.prog 5 #[.string a0] w fun e w' => e = .returned (.bool r) ∧ Below w.heap.size w w' := by
 have HB := Aside0.mk (Below.refl w.heap.size w)
 have H : (if (a0.size : Int) > 500 then (dactyllaw10_EmitControls.j0 k a0 true) else ((emit_Clean.f k a0).bind fun t329 => (dactyllaw10_EmitControls.j0 k a0 (!t329)))) = some r := h
 clear h
 have HC2 := Aside0.mk H
 clear H
 go_enter Try.func5, Try.ntmps5
 go_upto_region 1 with (fail)
 go_cut [14] (fun v14 wc => ∃ (kq : Nat) (x14_1 : Bool), v14 = .bool x14_1 ∧ Aside0 (dactyllaw10_EmitControls.j0 kq a0 x14_1 = some r) ∧ Aside0 (kq ≤ k) ∧ Aside0 (Below w.heap.size w wc))
 case first =>
  have H := HC2.out
  clear HC2
  by_cases c3 : (a0.size : Int) > 500
  ·rw [if_pos c3] at H
   have c3b0 : decide (500 < (a0.size : Int)) = true := decide_eq_true c3
   have c3b1 : decide (500 < a0.size) = true := decide_eq_true (by omega)
   clear c3
   (first | rw [c3b0] | (simp only [i64_w, i32_w]; rw [c3b0]) | skip)
   have H' := Aside0.mk H
   clear H
   go_wp2
   go_meet
   case rel => exact ⟨_, (true), (by first | rfl | (simp; done) | (simp [*]; done)), H', ⟨by first | omega | exact Nat.le_refl _⟩, ⟨by repeat (first | (with_reducible first | exact HB.out | apply below_alloc | apply pw_below_drewN | apply below_drew1) | exact HB.out)⟩⟩
  ·rw [if_neg c3] at H
   have c3b0 : decide (500 < (a0.size : Int)) = false := decide_eq_false c3
   have c3b1 : decide (500 < a0.size) = false := decide_eq_false (by omega)
   clear c3
   (first | rw [c3b0] | (simp only [i64_w, i32_w]; rw [c3b0]) | skip)
   replace H := Option.bind_eq_some_iff.mp H
   obtain ⟨t329, A40, H⟩ := H
   replace H : (dactyllaw10_EmitControls.j0 k a0 (!t329)) = some r := H
   have A4 := Aside0.mk A40
   clear A40
   have H' := Aside0.mk H
   clear H
   go_wp2_with (first | (go_at_call 20; (with_reducible refine (emit_Clean.calls k a0 t329 _ A4.out).mono ?_); rintro e w5 ⟨rfl, hb⟩; have n0_ := Aside0.mk (below_step zb hb); clear HB; have HB := n0_; clear n0_; (try clear hb); (try clear hb2); (try clear hk); (try clear hi)))
   go_meet
   case rel => exact ⟨_, (!t329), (by first | rfl | (simp; done) | (simp [*]; done)), H', ⟨by first | omega | exact Nat.le_refl _⟩, ⟨by repeat (first | (with_reducible first | exact HB.out | apply below_alloc | apply pw_below_drewN | apply below_drew1) | exact HB.out)⟩⟩
 case rest =>
  clear HC2
  try clear p2
  try clear c3
  try clear c3b0
  try clear c3b1
  try clear c5
  obtain ⟨kq, x14_1, rfl, HA, HJ1, HB⟩ := hcut
  cases kq with
  | zero => exact absurd HA.out (by simp [dactyllaw10_EmitControls.j0])
  | succ kj1 =>
   have H := HA.out
   clear HA
   simp only [dactyllaw10_EmitControls.j0] at H
   by_cases c6 : x14_1 = true
   ·subst c6
    have H1 : ((dactyllaw10_awake.f).bind fun t330 => (some t330)) = some r := by rw [if_pos rfl] at H; exact H
    clear H
    have H := H1
    clear H1
    replace H := Option.bind_eq_some_iff.mp H
    obtain ⟨t330, A70, H⟩ := H
    replace H : (some t330) = some r := H
    have A7 := Aside0.mk A70
    clear A70
    obtain rfl := Option.some.inj H
    go_wp2_with (first | ((with_reducible refine gate_callee (f := 8) rfl ?_); refine goesL_ (some 15) rfl rfl Try.func8 (by kernel_rfl) rfl #[] rfl zl ?_; (with_reducible refine (dactyllaw10_awake.calls  t330 _ A7.out).mono ?_); rintro e w8 ⟨rfl, hb⟩; refine ⟨_, rfl, ?_⟩; have n0_ := Aside0.mk (below_step zb hb); clear HB; have HB := n0_; clear n0_; (try clear hb); (try clear hb2); (try clear hk); (try clear hi)))
    go_ret
    exact ⟨zr, zb⟩
   ·replace c6 := Bool.eq_false_iff.mpr c6
    subst c6
    have H1 : (dactyllaw10_EmitControls.l0 kj1 a0 0) = some r := by rw [if_neg (show ¬ (false = true) by decide)] at H; exact H
    clear H
    have H := H1
    clear H1
    have H' := Aside0.mk H
    clear H
    go_wp2
    go_loopg [3] kj1 (fun kq v3 w' => ∃ (x3_2 : Int), v3 = .int .i64 x3_2 ∧ Aside0 (dactyllaw10_EmitControls.l0 kq a0 x3_2 = some r) ∧ Aside0 (kq ≤ kj1) ∧ Aside0 (Below w.heap.size w w'))
    case atStart => exact ⟨(0), (by first | rfl | (simp; done) | (simp [*]; done)), H', ⟨Nat.le_refl _⟩, ⟨by repeat (first | (with_reducible first | exact HB.out | apply below_alloc | apply pw_below_drewN | apply below_drew1) | exact HB.out)⟩⟩
    case round =>
     clear H'
     try clear p2
     try clear c3
     try clear c3b0
     try clear c3b1
     try clear c5
     try clear c6
     try clear c8
     try clear p2
     obtain ⟨x3_2, rfl, HA, HK2, HB⟩ := hrel
     cases gk with
     | zero => exact absurd HA.out (by simp [dactyllaw10_EmitControls.l0])
     | succ k2 =>
      have H := HA.out
      clear HA
      simp only [dactyllaw10_EmitControls.l0] at H
      by_cases c9 : x3_2 < (a0.size : Int)
      ·rw [if_pos c9] at H
       have c9b0 : decide (x3_2 < (a0.size : Int)) = true := decide_eq_true c9
       clear c9
       by_cases c10 : 0 ≤ x3_2
       ·rw [if_pos c10] at H
        have c10b0 : decide (0 ≤ x3_2) = true := decide_eq_true c10
        clear c10
        by_cases c12 : (bt a0 x3_2) < 32
        ·rw [if_pos c12] at H
         have c12b0 : decide ((bt a0 x3_2) < 32) = true := decide_eq_true c12
         clear c12
         by_cases c13 : (bt a0 x3_2) = 7
         ·rw [if_pos c13] at H
          have c13b0 : ((bt a0 x3_2) == 7) = true := beq_iff_eq.mpr c13
          have c13b1 : ((bt a0 x3_2) != 7) = false := bne_eq_false_iff_eq.mpr c13
          clear c13
          by_cases c14 : (bt a0 x3_2) = 127
          ·rw [if_pos c14] at H
           have c14b0 : ((bt a0 x3_2) == 127) = true := beq_iff_eq.mpr c14
           have c14b1 : ((bt a0 x3_2) != 127) = false := bne_eq_false_iff_eq.mpr c14
           clear c14
           obtain rfl := Option.some.inj H
           have p11 : 0 ≤ (x3_2 : Int) := of_decide_eq_true za
           have q11 : x3_2 < (a0.size : Int) := of_decide_eq_true za
           have hx11 := bt_at a0 x3_2
           replace p11 := eq_true p11
           replace q11 := eq_true q11
           go_wp2
           go_ret
           exact ⟨zr, zb⟩
          ·rw [if_neg c14] at H
           have c14b0 : ((bt a0 x3_2) == 127) = false := beq_eq_false_iff_ne.mpr c14
           have c14b1 : ((bt a0 x3_2) != 127) = true := bne_iff_ne.mpr c14
           have H' := Aside0.mk H
           clear H
           have p11 : 0 ≤ (x3_2 : Int) := of_decide_eq_true za
           have q11 : x3_2 < (a0.size : Int) := of_decide_eq_true za
           have hx11 := bt_at a0 x3_2
           replace p11 := eq_true p11
           replace q11 := eq_true q11
           go_wp2
           go_roundg k2
           case measure => have := HJ1.out; have := HK2.out; omega
           case rel => exact ⟨(wrap64 (x3_2 + 1)), (by first | rfl | (simp; done) | (simp [*]; done)), H', ⟨by have := HJ1.out; have := HK2.out; omega⟩, ⟨by repeat (first | (with_reducible first | exact HB.out | apply below_alloc | apply pw_below_drewN | apply below_drew1) | exact HB.out)⟩⟩
         ·rw [if_neg c13] at H
          have c13b0 : ((bt a0 x3_2) == 7) = false := beq_eq_false_iff_ne.mpr c13
          have c13b1 : ((bt a0 x3_2) != 7) = true := bne_iff_ne.mpr c13
          by_cases c15 : (bt a0 x3_2) = 10
          ·rw [if_pos c15] at H
           have c15b0 : ((bt a0 x3_2) == 10) = true := beq_iff_eq.mpr c15
           have c15b1 : ((bt a0 x3_2) != 10) = false := bne_eq_false_iff_eq.mpr c15
           clear c15
           by_cases c16 : (bt a0 x3_2) = 127
           ·rw [if_pos c16] at H
            have c16b0 : ((bt a0 x3_2) == 127) = true := beq_iff_eq.mpr c16
            have c16b1 : ((bt a0 x3_2) != 127) = false := bne_eq_false_iff_eq.mpr c16
            clear c16
            obtain rfl := Option.some.inj H
            have p11 : 0 ≤ (x3_2 : Int) := of_decide_eq_true za
            have q11 : x3_2 < (a0.size : Int) := of_decide_eq_true za
            have hx11 := bt_at a0 x3_2
            replace p11 := eq_true p11
            replace q11 := eq_true q11
            go_wp2
            go_ret
            exact ⟨zr, zb⟩
           ·rw [if_neg c16] at H
            have c16b0 : ((bt a0 x3_2) == 127) = false := beq_eq_false_iff_ne.mpr c16
            have c16b1 : ((bt a0 x3_2) != 127) = true := bne_iff_ne.mpr c16
            have H' := Aside0.mk H
            clear H
            have p11 : 0 ≤ (x3_2 : Int) := of_decide_eq_true za
            have q11 : x3_2 < (a0.size : Int) := of_decide_eq_true za
            have hx11 := bt_at a0 x3_2
            replace p11 := eq_true p11
            replace q11 := eq_true q11
            go_wp2
            go_roundg k2
            case measure => have := HJ1.out; have := HK2.out; omega
            case rel => exact ⟨(wrap64 (x3_2 + 1)), (by first | rfl | (simp; done) | (simp [*]; done)), H', ⟨by have := HJ1.out; have := HK2.out; omega⟩, ⟨by repeat (first | (with_reducible first | exact HB.out | apply below_alloc | apply pw_below_drewN | apply below_drew1) | exact HB.out)⟩⟩
          ·rw [if_neg c15] at H
           have c15b0 : ((bt a0 x3_2) == 10) = false := beq_eq_false_iff_ne.mpr c15
           have c15b1 : ((bt a0 x3_2) != 10) = true := bne_iff_ne.mpr c15
           by_cases c17 : (bt a0 x3_2) = 13
           ·rw [if_pos c17] at H
            have c17b0 : ((bt a0 x3_2) == 13) = true := beq_iff_eq.mpr c17
            have c17b1 : ((bt a0 x3_2) != 13) = false := bne_eq_false_iff_eq.mpr c17
            clear c17
            by_cases c18 : (bt a0 x3_2) = 127
            ·rw [if_pos c18] at H
             have c18b0 : ((bt a0 x3_2) == 127) = true := beq_iff_eq.mpr c18
             have c18b1 : ((bt a0 x3_2) != 127) = false := bne_eq_false_iff_eq.mpr c18
             clear c18
             obtain rfl := Option.some.inj H
             have p11 : 0 ≤ (x3_2 : Int) := of_decide_eq_true za
             have q11 : x3_2 < (a0.size : Int) := of_decide_eq_true za
             have hx11 := bt_at a0 x3_2
             replace p11 := eq_true p11
             replace q11 := eq_true q11
             go_wp2
             go_ret
             exact ⟨zr, zb⟩
            ·rw [if_neg c18] at H
             have c18b0 : ((bt a0 x3_2) == 127) = false := beq_eq_false_iff_ne.mpr c18
             have c18b1 : ((bt a0 x3_2) != 127) = true := bne_iff_ne.mpr c18
             have H' := Aside0.mk H
             clear H
             have p11 : 0 ≤ (x3_2 : Int) := of_decide_eq_true za
             have q11 : x3_2 < (a0.size : Int) := of_decide_eq_true za
             have hx11 := bt_at a0 x3_2
             replace p11 := eq_true p11
             replace q11 := eq_true q11
             go_wp2
             go_roundg k2
             case measure => have := HJ1.out; have := HK2.out; omega
             case rel => exact ⟨(wrap64 (x3_2 + 1)), (by first | rfl | (simp; done) | (simp [*]; done)), H', ⟨by have := HJ1.out; have := HK2.out; omega⟩, ⟨by repeat (first | (with_reducible first | exact HB.out | apply below_alloc | apply pw_below_drewN | apply below_drew1) | exact HB.out)⟩⟩
           ·rw [if_neg c17] at H
            have c17b0 : ((bt a0 x3_2) == 13) = false := beq_eq_false_iff_ne.mpr c17
            have c17b1 : ((bt a0 x3_2) != 13) = true := bne_iff_ne.mpr c17
            by_cases c19 : (bt a0 x3_2) = 27
            ·rw [if_pos c19] at H
             have c19b0 : ((bt a0 x3_2) == 27) = true := beq_iff_eq.mpr c19
             have c19b1 : ((bt a0 x3_2) != 27) = false := bne_eq_false_iff_eq.mpr c19
             clear c19
             by_cases c20 : (wrap64 (x3_2 + 1)) = (a0.size : Int)
             ·rw [if_pos c20] at H
              have c20b0 : ((wrap64 (x3_2 + 1)) == (a0.size : Int)) = true := beq_iff_eq.mpr c20
              have c20b1 : ((wrap64 (x3_2 + 1)) != (a0.size : Int)) = false := bne_eq_false_iff_eq.mpr c20
              clear c20
              obtain rfl := Option.some.inj H
              have p11 : 0 ≤ (x3_2 : Int) := of_decide_eq_true za
              have q11 : x3_2 < (a0.size : Int) := of_decide_eq_true za
              have hx11 := bt_at a0 x3_2
              replace p11 := eq_true p11
              replace q11 := eq_true q11
              go_wp2
              go_ret
              exact ⟨zr, zb⟩
             ·rw [if_neg c20] at H
              have c20b0 : ((wrap64 (x3_2 + 1)) == (a0.size : Int)) = false := beq_eq_false_iff_ne.mpr c20
              have c20b1 : ((wrap64 (x3_2 + 1)) != (a0.size : Int)) = true := bne_iff_ne.mpr c20
              obtain ⟨ji21, hji21⟩ : ∃ j_ : Int, (wrap64 (x3_2 + 1)) = j_ := ⟨_, rfl⟩
              replace H : (if 0 ≤ (ji21) then (if (ji21) < (a0.size : Int) then (if (bt a0 (ji21)) = 91 then (if (bt a0 x3_2) = 127 then (some false) else (dactyllaw10_EmitControls.l0 k2 a0 ji21)) else (some false)) else (none)) else (none)) = some r := by first | (rw [hji21] at H; exact H) | (simp only [hji21] at H ⊢; exact H)
              (try rw [hji21] at c20b0)
              (try rw [hji21] at c20b1)
              have hji21w : (IntKind.i64.wrap (x3_2 + 1)) = ji21 := (i64_w _).trans hji21
              by_cases c22 : 0 ≤ (ji21)
              ·rw [if_pos c22] at H
               have c22b0 : decide (0 ≤ (ji21)) = true := decide_eq_true c22
               clear c22
               by_cases c23 : (ji21) < (a0.size : Int)
               ·rw [if_pos c23] at H
                have c23b0 : decide ((ji21) < (a0.size : Int)) = true := decide_eq_true c23
                clear c23
                by_cases c25 : (bt a0 (ji21)) = 91
                ·rw [if_pos c25] at H
                 have c25b0 : ((bt a0 (ji21)) == 91) = true := beq_iff_eq.mpr c25
                 have c25b1 : ((bt a0 (ji21)) != 91) = false := bne_eq_false_iff_eq.mpr c25
                 clear c25
                 by_cases c26 : (bt a0 x3_2) = 127
                 ·rw [if_pos c26] at H
                  have c26b0 : ((bt a0 x3_2) == 127) = true := beq_iff_eq.mpr c26
                  have c26b1 : ((bt a0 x3_2) != 127) = false := bne_eq_false_iff_eq.mpr c26
                  clear c26
                  obtain rfl := Option.some.inj H
                  have p11 : 0 ≤ (x3_2 : Int) := of_decide_eq_true za
                  have q11 : x3_2 < (a0.size : Int) := of_decide_eq_true za
                  have hx11 := bt_at a0 x3_2
                  replace p11 := eq_true p11
                  replace q11 := eq_true q11
                  have p24 : 0 ≤ ((ji21) : Int) := of_decide_eq_true za
                  have q24 : (ji21) < (a0.size : Int) := of_decide_eq_true za
                  have hx24 := bt_at a0 (ji21)
                  replace p24 := eq_true p24
                  replace q24 := eq_true q24
                  go_wp2
                  go_ret
                  exact ⟨by first | rfl | (simp [errW_none, errW_some] <;> rfl) | (simp only [← hji21]; first | rfl | (simp [errW_none, errW_some] <;> rfl)) | (simp [*, errW_none, errW_some] <;> rfl), by repeat (first | (with_reducible first | exact HB.out | apply below_alloc | apply pw_below_drewN | apply below_drew1) | exact HB.out)⟩
                 ·rw [if_neg c26] at H
                  have c26b0 : ((bt a0 x3_2) == 127) = false := beq_eq_false_iff_ne.mpr c26
                  have c26b1 : ((bt a0 x3_2) != 127) = true := bne_iff_ne.mpr c26
                  have H' := Aside0.mk H
                  clear H
                  have p11 : 0 ≤ (x3_2 : Int) := of_decide_eq_true za
                  have q11 : x3_2 < (a0.size : Int) := of_decide_eq_true za
                  have hx11 := bt_at a0 x3_2
                  replace p11 := eq_true p11
                  replace q11 := eq_true q11
                  have p24 : 0 ≤ ((ji21) : Int) := of_decide_eq_true za
                  have q24 : (ji21) < (a0.size : Int) := of_decide_eq_true za
                  have hx24 := bt_at a0 (ji21)
                  replace p24 := eq_true p24
                  replace q24 := eq_true q24
                  go_wp2
                  go_roundg k2
                  case measure => have := HJ1.out; have := HK2.out; omega
                  case rel => exact ⟨(ji21), (by first | rfl | (simp; done) | (simp only [← hji21] <;> (first | rfl | simp)) | (simp [*]; done)), H', ⟨by have := HJ1.out; have := HK2.out; omega⟩, ⟨by repeat (first | (with_reducible first | exact HB.out | apply below_alloc | apply pw_below_drewN | apply below_drew1) | exact HB.out)⟩⟩
                ·rw [if_neg c25] at H
                 have c25b0 : ((bt a0 (ji21)) == 91) = false := beq_eq_false_iff_ne.mpr c25
                 have c25b1 : ((bt a0 (ji21)) != 91) = true := bne_iff_ne.mpr c25
                 obtain rfl := Option.some.inj H
                 have p11 : 0 ≤ (x3_2 : Int) := of_decide_eq_true za
                 have q11 : x3_2 < (a0.size : Int) := of_decide_eq_true za
                 have hx11 := bt_at a0 x3_2
                 replace p11 := eq_true p11
                 replace q11 := eq_true q11
                 have p24 : 0 ≤ ((ji21) : Int) := of_decide_eq_true za
                 have q24 : (ji21) < (a0.size : Int) := of_decide_eq_true za
                 have hx24 := bt_at a0 (ji21)
                 replace p24 := eq_true p24
                 replace q24 := eq_true q24
                 go_wp2
                 go_ret
                 exact ⟨by first | rfl | (simp [errW_none, errW_some] <;> rfl) | (simp only [← hji21]; first | rfl | (simp [errW_none, errW_some] <;> rfl)) | (simp [*, errW_none, errW_some] <;> rfl), by repeat (first | (with_reducible first | exact HB.out | apply below_alloc | apply pw_below_drewN | apply below_drew1) | exact HB.out)⟩
               ·rw [if_neg c23] at H
                exact absurd H (by simp)
              ·rw [if_neg c22] at H
               exact absurd H (by simp)
            ·rw [if_neg c19] at H
             have c19b0 : ((bt a0 x3_2) == 27) = false := beq_eq_false_iff_ne.mpr c19
             have c19b1 : ((bt a0 x3_2) != 27) = true := bne_iff_ne.mpr c19
             obtain rfl := Option.some.inj H
             have p11 : 0 ≤ (x3_2 : Int) := of_decide_eq_true za
             have q11 : x3_2 < (a0.size : Int) := of_decide_eq_true za
             have hx11 := bt_at a0 x3_2
             replace p11 := eq_true p11
             replace q11 := eq_true q11
             go_wp2
             go_ret
             exact ⟨zr, zb⟩
        ·rw [if_neg c12] at H
         have c12b0 : decide ((bt a0 x3_2) < 32) = false := decide_eq_false c12
         clear c12
         by_cases c27 : (bt a0 x3_2) = 127
         ·rw [if_pos c27] at H
          have c27b0 : ((bt a0 x3_2) == 127) = true := beq_iff_eq.mpr c27
          have c27b1 : ((bt a0 x3_2) != 127) = false := bne_eq_false_iff_eq.mpr c27
          clear c27
          obtain rfl := Option.some.inj H
          have p11 : 0 ≤ (x3_2 : Int) := of_decide_eq_true za
          have q11 : x3_2 < (a0.size : Int) := of_decide_eq_true za
          have hx11 := bt_at a0 x3_2
          replace p11 := eq_true p11
          replace q11 := eq_true q11
          go_wp2
          go_ret
          exact ⟨zr, zb⟩
         ·rw [if_neg c27] at H
          have c27b0 : ((bt a0 x3_2) == 127) = false := beq_eq_false_iff_ne.mpr c27
          have c27b1 : ((bt a0 x3_2) != 127) = true := bne_iff_ne.mpr c27
          have H' := Aside0.mk H
          clear H
          have p11 : 0 ≤ (x3_2 : Int) := of_decide_eq_true za
          have q11 : x3_2 < (a0.size : Int) := of_decide_eq_true za
          have hx11 := bt_at a0 x3_2
          replace p11 := eq_true p11
          replace q11 := eq_true q11
          go_wp2
          go_roundg k2
          case measure => have := HJ1.out; have := HK2.out; omega
          case rel => exact ⟨(wrap64 (x3_2 + 1)), (by first | rfl | (simp; done) | (simp [*]; done)), H', ⟨by have := HJ1.out; have := HK2.out; omega⟩, ⟨by repeat (first | (with_reducible first | exact HB.out | apply below_alloc | apply pw_below_drewN | apply below_drew1) | exact HB.out)⟩⟩
       ·rw [if_neg c10] at H
        exact absurd H (by simp)
      ·rw [if_neg c9] at H
       have c9b0 : decide (x3_2 < (a0.size : Int)) = false := decide_eq_false c9
       clear c9
       replace H := Option.bind_eq_some_iff.mp H
       obtain ⟨t331, A280, H⟩ := H
       replace H : (dactyllaw10_EmitControls.l1 k2 t331 0) = some r := H
       have A28 := Aside0.mk A280
       clear A280
       have H' := Aside0.mk H
       clear H
       go_wp2_with (first | ((with_reducible refine gate_callee (f := 21) rfl ?_); refine goesL_ (some 62) rfl rfl Try.func21 (by kernel_rfl) rfl #[.string a0] rfl zl ?_; (with_reducible refine (dactylref02_Decode.calls k2 a0 t331 _ A28.out).mono ?_); rintro e w29 ⟨v332, rfl, ho0, hb⟩; refine ⟨_, rfl, ?_⟩; have n0_ := Aside0.mk (Kd.R_lower ho0 (below_size zb)); have n1_ := Aside0.mk (below_step zb hb); clear HB; have HO333 := n0_; have HB := n1_; clear n0_ n1_; (try clear hb); (try clear hb2); (try clear hk); (try clear hi); (try clear ho0)))
       go_loopg [6] k2 (fun kq v6 w' => ∃ (x6_3 : Int), v6 = .int .i64 x6_3 ∧ Aside0 (dactyllaw10_EmitControls.l1 kq t331 x6_3 = some r) ∧ Aside0 (kq ≤ k2) ∧ Aside0 (Kd.R (Kd.int .i64) 3 w' w.heap.size (fun _ => True) v332 t331) ∧ Aside0 (Below w.heap.size w w'))
       case atStart => exact ⟨(0), (by first | rfl | (simp; done) | (simp [*]; done)), H', ⟨Nat.le_refl _⟩, ⟨by (with_reducible repeat (first | apply Kd.R_alloc | apply Kd.R_drewN | apply Kd.R_drew)); exact HO333.out⟩, ⟨by repeat (first | (with_reducible first | exact HB.out | apply below_alloc | apply pw_below_drewN | apply below_drew1) | exact HB.out)⟩⟩
       case round =>
        clear H'
        try clear c1
        try clear p1
        try clear q1
        try clear hx1
        try clear c2
        try clear p2
        try clear q2
        try clear hx2
        try clear c3
        try clear c3b0
        try clear c3b1
        try clear c5
        try clear c6
        try clear p6
        try clear c8
        try clear c9
        try clear c9b0
        try clear c10
        try clear c10b0
        try clear p11
        try clear q11
        try clear hx11
        try clear c12
        try clear c12b0
        try clear c13
        try clear c13b0
        try clear c13b1
        try clear c14
        try clear c14b0
        try clear c14b1
        try clear c15
        try clear c15b0
        try clear c15b1
        try clear c16
        try clear c16b0
        try clear c16b1
        try clear c17
        try clear c17b0
        try clear c17b1
        try clear c18
        try clear c18b0
        try clear c18b1
        try clear c19
        try clear c19b0
        try clear c19b1
        try clear c20
        try clear c20b0
        try clear c20b1
        try clear c21
        try clear c22
        try clear c22b0
        try clear c23
        try clear c23b0
        try clear p24
        try clear q24
        try clear hx24
        try clear c25
        try clear c25b0
        try clear c25b1
        try clear c26
        try clear c26b0
        try clear c26b1
        try clear c27
        try clear c27b0
        try clear c27b1
        try clear p11
        try clear p2
        try clear p24
        try clear q11
        try clear q24
        obtain ⟨x6_3, rfl, HA, HK3, HO_5, HB⟩ := hrel
        cases gk with
        | zero => exact absurd HA.out (by simp [dactyllaw10_EmitControls.l1])
        | succ k3 =>
         have H := HA.out
         clear HA
         simp only [dactyllaw10_EmitControls.l1] at H
         by_cases c30 : x6_3 < (t331.length : Int)
         ·rw [if_pos c30] at H
          have c30b0 : decide (x6_3 < (t331.length : Int)) = true := decide_eq_true c30
          clear c30
          by_cases c31 : 0 ≤ x6_3
          ·rw [if_pos c31] at H
           have c31b0 : decide (0 ≤ x6_3) = true := decide_eq_true c31
           clear c31
           replace H := Option.bind_eq_some_iff.mp H
           obtain ⟨t335, A320, H⟩ := H
           replace H : (if t335 > 4 then (some false) else (dactyllaw10_EmitControls.l1 k3 t331 (wrap64 (x6_3 + 1)))) = some r := H
           have A32 := Aside0.mk A320
           clear A320
           by_cases c33 : t335 > 4
           ·rw [if_pos c33] at H
            have c33b0 : decide (4 < t335) = true := decide_eq_true c33
            clear c33
            obtain rfl := Option.some.inj H
            obtain ⟨Ao34, co34, eo34⟩ := Kd.R_slice HO_5.out
            subst eo34
            have p334 : 0 ≤ (x6_3 : Int) := of_decide_eq_true za
            have q334 : x6_3 < (t331.length : Int) := of_decide_eq_true za
            obtain ⟨ad334, e334, hx334_0⟩ := Kd.at_int (Kd.R_reads' HO_5.out).2.2 x6_3 p334 q334
            cases e334
            replace p334 := eq_true p334
            replace q334 := eq_true q334
            go_wp2_with (first | ((with_reducible refine gate_callee (f := 22) rfl ?_); refine goesL_ (some 73) rfl rfl Try.func22 (by kernel_rfl) rfl #[.int .i64 (rd t331 x6_3)] rfl zl ?_; (with_reducible refine (dactylref03_Of.calls k3 (rd t331 x6_3) t335 _ A32.out).mono ?_); rintro e w35 ⟨rfl, hb⟩; refine ⟨_, rfl, ?_⟩; have n0_ := Aside0.mk (Kd.R_below (zk HO_5.out) hb); have n1_ := Aside0.mk (below_step zb hb); clear HO_5; clear HB; have HO_5 := n0_; have HB := n1_; clear n0_ n1_; (try clear hb); (try clear hb2); (try clear hk); (try clear hi)))
            go_ret
            exact ⟨zr, zb⟩
           ·rw [if_neg c33] at H
            have c33b0 : decide (4 < t335) = false := decide_eq_false c33
            clear c33
            have H' := Aside0.mk H
            clear H
            obtain ⟨Ao36, co36, eo36⟩ := Kd.R_slice HO_5.out
            subst eo36
            have p334 : 0 ≤ (x6_3 : Int) := of_decide_eq_true za
            have q334 : x6_3 < (t331.length : Int) := of_decide_eq_true za
            obtain ⟨ad334, e334, hx334_0⟩ := Kd.at_int (Kd.R_reads' HO_5.out).2.2 x6_3 p334 q334
            cases e334
            replace p334 := eq_true p334
            replace q334 := eq_true q334
            go_wp2_with (first | ((with_reducible refine gate_callee (f := 22) rfl ?_); refine goesL_ (some 73) rfl rfl Try.func22 (by kernel_rfl) rfl #[.int .i64 (rd t331 x6_3)] rfl zl ?_; (with_reducible refine (dactylref03_Of.calls k3 (rd t331 x6_3) t335 _ A32.out).mono ?_); rintro e w37 ⟨rfl, hb⟩; refine ⟨_, rfl, ?_⟩; have n0_ := Aside0.mk (Kd.R_below (zk HO_5.out) hb); have n1_ := Aside0.mk (below_step zb hb); clear HO_5; clear HB; have HO_5 := n0_; have HB := n1_; clear n0_ n1_; (try clear hb); (try clear hb2); (try clear hk); (try clear hi)))
            go_roundg k3
            case measure => have := HJ1.out; have := HK2.out; have := HK3.out; omega
            case rel => exact ⟨(wrap64 (x6_3 + 1)), (by first | rfl | (simp; done) | (simp [*]; done)), H', ⟨by have := HJ1.out; have := HK2.out; have := HK3.out; omega⟩, ⟨by (with_reducible repeat (first | apply Kd.R_alloc | apply Kd.R_drewN | apply Kd.R_drew)); exact HO_5.out⟩, ⟨by repeat (first | (with_reducible first | exact HB.out | apply below_alloc | apply pw_below_drewN | apply below_drew1) | exact HB.out)⟩⟩
          ·rw [if_neg c31] at H
           exact absurd H (by simp)
         ·rw [if_neg c30] at H
          have c30b0 : decide (x6_3 < (t331.length : Int)) = false := decide_eq_false c30
          clear c30
          replace H := Option.bind_eq_some_iff.mp H
          obtain ⟨t336, A380, H⟩ := H
          replace H : (some t336) = some r := H
          have A38 := Aside0.mk A380
          clear A380
          obtain rfl := Option.some.inj H
          obtain ⟨Ao39, co39, eo39⟩ := Kd.R_slice HO_5.out
          subst eo39
          go_wp2_with (first | ((with_reducible refine gate_callee (f := 8) rfl ?_); refine goesL_ (some 75) rfl rfl Try.func8 (by kernel_rfl) rfl #[] rfl zl ?_; (with_reducible refine (dactyllaw10_awake.calls  t336 _ A38.out).mono ?_); rintro e w40 ⟨rfl, hb⟩; refine ⟨_, rfl, ?_⟩; have n0_ := Aside0.mk (Kd.R_below (zk HO_5.out) hb); have n1_ := Aside0.mk (below_step zb hb); clear HO_5; clear HB; have HO_5 := n0_; have HB := n1_; clear n0_ n1_; (try clear hb); (try clear hb2); (try clear hk); (try clear hi)))
          go_ret
          exact ⟨zr, zb⟩

/-- THE ONE PURE STATEMENT of dactyllaw10_EmitControls: yours. -/
def dactyllaw10_EmitControls.Pure : Prop := ∀ (a0 : ByteArray), a0.size ≤ 140737488351232 → ∃ k, dactyllaw10_EmitControls.f k a0 = some true
theorem dactyllaw10_EmitControls.walk (P : dactyllaw10_EmitControls.Pure) (a0 : ByteArray) (w : World) (w0 : a0.size ≤ 140737488351232) :
  Calls Try.prog 5 #[.string a0] w fun e w' => e = .returned (.bool true) ∧ Below w.heap.size w w' := by
 obtain ⟨k, h⟩ := P a0 w0
 refine (dactyllaw10_EmitControls.calls k a0 true w h).mono ?_
 rintro e w' ⟨rfl, hd⟩
 exact ⟨rfl, hd⟩

end Go.Proofs.Ytddkmhkglmcihaa.PAll
