-- Printed for this claim by the session's own program (wip/tool/hprint.py) over the kit's print; some functions' texts are the session's own.
import Derived.Test.YtddkmhkglmcihaaPAllx0
import Derived.Test.YtddkmhkglmcihaaPAllx2
namespace Go.Proofs.Ytddkmhkglmcihaa.PAll
open Go.RowKit Go.Proofs.YtddkmhkglmcihaaW.PrintWords Go.Proofs.YtddkmhkglmcihaaW.PrintLast Go.Proofs.YtddkmhkglmcihaaW.PrintMore
attribute [local go_sem] max2_int min2_int max_two min_two max_three min_three max_four min_four   -- for this text's walks alone
set_option linter.unusedVariables false
set_option linter.unusedSimpArgs false

/-! ### class_Of: function 49 -/
def class_Of.j0 : Nat → Int → Option (Int)
 | 0, _ => none
 | k + 1, x0 => (class_spans.f).bind fun t115 => ((class_in.f x0 t115).bind fun t118 => (if t118 = 0 then ((class_Skeleton.f x0).bind fun t119 => (if t119 = x0 then ((class_wides.f).bind fun t120 => ((class_in.f x0 t120).bind fun t123 => (if t123 = 0 then (some 1) else (some t123)))) else (some 3))) else (some t118)))
def class_Of.f (k : Nat) (a0 : Int) : Option (Int) := (utf_Right.f a0).bind fun t114 => (if t114 = true then (if a0 > 1114111 then (some 12) else (if a0 > 31 then (if a0 < 127 then (some 1) else (class_Of.j0 k a0)) else (class_Of.j0 k a0))) else (some 0))
theorem class_Of.mono_l : ∀ k, (∀ y0, LeO (class_Of.j0 k y0) (class_Of.j0 (k + 1) y0))
 | 0 => fun _ r h => by simp [class_Of.j0] at h
 | k + 1 => by
  have ih0 := class_Of.mono_l k
  ·intro y0
   unfold class_Of.j0
   repeat' first
   | (with_reducible exact ih0 _)
   | (with_reducible exact LeO.refl _)
   | (with_reducible exact LeO.none _)
   | (with_reducible refine LeO.ite ?_ ?_)
   | (with_reducible refine LeO.bind ?_ (fun _ => ?_))
   | exact ih0 _
   | exact LeO.none _
   | refine LeO.ite ?_ ?_
   | refine LeO.bind ?_ (fun _ => ?_)
theorem class_Of.mono : ∀ a0 k, LeO (class_Of.f k a0) (class_Of.f (k + 1) a0) := by
 intro a0 k
 have ih0 := class_Of.mono_l k
 unfold class_Of.f
 repeat' first
   | (with_reducible exact ih0 _)
   | (with_reducible exact LeO.refl _)
   | (with_reducible exact LeO.none _)
   | (with_reducible refine LeO.ite ?_ ?_)
   | (with_reducible refine LeO.bind ?_ (fun _ => ?_))
   | exact ih0 _
   | exact LeO.none _
   | refine LeO.ite ?_ ?_
   | refine LeO.bind ?_ (fun _ => ?_)
set_option maxHeartbeats 8000000 in
set_option maxRecDepth 100000 in
theorem class_Of.calls (k : Nat) (a0 : Int) (r : Int) (w : World) (h : class_Of.f k a0 = some r) :
  Calls Try.prog 49 #[.int .i64 a0] w fun e w' => e = .returned (.int .i64 r) ∧ Below w.heap.size w w' := by
 have HB := Aside0.mk (Below.refl w.heap.size w)
 have H : ((utf_Right.f a0).bind fun t114 => (if t114 = true then (if a0 > 1114111 then (some 12) else (if a0 > 31 then (if a0 < 127 then (some 1) else (class_Of.j0 k a0)) else (class_Of.j0 k a0))) else (some 0))) = some r := h
 clear h
 have HC2 := Aside0.mk H
 clear H
 go_enter Try.func49, Try.ntmps49
 go_upto_block 0 with (fail)
 go_cut [] (fun wc => ∃ (kq : Nat), Aside0 (class_Of.j0 kq a0 = some r) ∧ Aside0 (kq ≤ k) ∧ Aside0 (Below w.heap.size w wc))
 case first =>
  have H := HC2.out
  clear HC2
  replace H := Option.bind_eq_some_iff.mp H
  obtain ⟨t114, A30, H⟩ := H
  replace H : (if t114 = true then (if a0 > 1114111 then (some 12) else (if a0 > 31 then (if a0 < 127 then (some 1) else (class_Of.j0 k a0)) else (class_Of.j0 k a0))) else (some 0)) = some r := H
  have A3 := Aside0.mk A30
  clear A30
  by_cases c4 : t114 = true
  ·subst c4
   have H1 : (if a0 > 1114111 then (some 12) else (if a0 > 31 then (if a0 < 127 then (some 1) else (class_Of.j0 k a0)) else (class_Of.j0 k a0))) = some r := by rw [if_pos rfl] at H; exact H
   clear H
   have H := H1
   clear H1
   by_cases c5 : a0 > 1114111
   ·rw [if_pos c5] at H
    have c5b0 : decide (1114111 < a0) = true := decide_eq_true c5
    clear c5
    (first | rw [c5b0] | (simp only [i64_w, i32_w]; rw [c5b0]) | skip)
    obtain rfl := Option.some.inj H
    go_wp2_with (first | ((with_reducible refine gate_callee (f := 59) rfl ?_); refine goesL_ (some 7) rfl rfl Try.func59 (by kernel_rfl) rfl #[.int .i64 a0] rfl zl ?_; (with_reducible refine (utf_Right.calls a0 true _ A3.out).mono ?_); rintro e w' ⟨rfl, ⟨nd, rfl⟩⟩; refine ⟨_, rfl, ?_⟩))
    go_ret
    exact ⟨zr, zb⟩
   ·rw [if_neg c5] at H
    have c5b0 : decide (1114111 < a0) = false := decide_eq_false c5
    clear c5
    (first | rw [c5b0] | (simp only [i64_w, i32_w]; rw [c5b0]) | skip)
    by_cases c6 : a0 > 31
    ·rw [if_pos c6] at H
     have c6b0 : decide (31 < a0) = true := decide_eq_true c6
     clear c6
     by_cases c7 : a0 < 127
     ·rw [if_pos c7] at H
      have c7b0 : decide (a0 < 127) = true := decide_eq_true c7
      clear c7
      obtain rfl := Option.some.inj H
      go_wp2_with (first | ((with_reducible refine gate_callee (f := 59) rfl ?_); refine goesL_ (some 7) rfl rfl Try.func59 (by kernel_rfl) rfl #[.int .i64 a0] rfl zl ?_; (with_reducible refine (utf_Right.calls a0 true _ A3.out).mono ?_); rintro e w' ⟨rfl, ⟨nd, rfl⟩⟩; refine ⟨_, rfl, ?_⟩))
      go_ret
      exact ⟨zr, zb⟩
     ·rw [if_neg c7] at H
      have c7b0 : decide (a0 < 127) = false := decide_eq_false c7
      clear c7
      have H' := Aside0.mk H
      clear H
      go_wp2_with (first | ((with_reducible refine gate_callee (f := 59) rfl ?_); refine goesL_ (some 7) rfl rfl Try.func59 (by kernel_rfl) rfl #[.int .i64 a0] rfl zl ?_; (with_reducible refine (utf_Right.calls a0 true _ A3.out).mono ?_); rintro e w' ⟨rfl, ⟨nd, rfl⟩⟩; refine ⟨_, rfl, ?_⟩))
      go_meet
      case rel => exact ⟨_, H', ⟨by first | omega | exact Nat.le_refl _⟩, ⟨by repeat (first | (with_reducible first | exact HB.out | apply below_alloc | apply pw_below_drewN | apply below_drew1) | exact HB.out)⟩⟩
    ·rw [if_neg c6] at H
     have c6b0 : decide (31 < a0) = false := decide_eq_false c6
     clear c6
     have H' := Aside0.mk H
     clear H
     go_wp2_with (first | ((with_reducible refine gate_callee (f := 59) rfl ?_); refine goesL_ (some 7) rfl rfl Try.func59 (by kernel_rfl) rfl #[.int .i64 a0] rfl zl ?_; (with_reducible refine (utf_Right.calls a0 true _ A3.out).mono ?_); rintro e w' ⟨rfl, ⟨nd, rfl⟩⟩; refine ⟨_, rfl, ?_⟩))
     go_meet
     case rel => exact ⟨_, H', ⟨by first | omega | exact Nat.le_refl _⟩, ⟨by repeat (first | (with_reducible first | exact HB.out | apply below_alloc | apply pw_below_drewN | apply below_drew1) | exact HB.out)⟩⟩
  ·replace c4 := Bool.eq_false_iff.mpr c4
   subst c4
   have H1 : (some 0) = some r := by rw [if_neg (show ¬ (false = true) by decide)] at H; exact H
   clear H
   have H := H1
   clear H1
   obtain rfl := Option.some.inj H
   go_wp2_with (first | ((with_reducible refine gate_callee (f := 59) rfl ?_); refine goesL_ (some 7) rfl rfl Try.func59 (by kernel_rfl) rfl #[.int .i64 a0] rfl zl ?_; (with_reducible refine (utf_Right.calls a0 false _ A3.out).mono ?_); rintro e w' ⟨rfl, ⟨nd, rfl⟩⟩; refine ⟨_, rfl, ?_⟩))
   go_ret
   exact ⟨zr, zb⟩
 case rest =>
  clear HC2
  try clear p2
  try clear c4
  try clear c5
  try clear c5b0
  try clear c6
  try clear c6b0
  try clear c7
  try clear c7b0
  obtain ⟨kq, HA, HJ1, HB⟩ := hcut
  cases kq with
  | zero => exact absurd HA.out (by simp [class_Of.j0])
  | succ kj1 =>
   have H := HA.out
   clear HA
   simp only [class_Of.j0] at H
   replace H := Option.bind_eq_some_iff.mp H
   obtain ⟨t115, A80, H⟩ := H
   replace H : ((class_in.f a0 t115).bind fun t118 => (if t118 = 0 then ((class_Skeleton.f a0).bind fun t119 => (if t119 = a0 then ((class_wides.f).bind fun t120 => ((class_in.f a0 t120).bind fun t123 => (if t123 = 0 then (some 1) else (some t123)))) else (some 3))) else (some t118))) = some r := H
   have A8 := Aside0.mk A80
   clear A80
   replace H := Option.bind_eq_some_iff.mp H
   obtain ⟨t118, A90, H⟩ := H
   replace H : (if t118 = 0 then ((class_Skeleton.f a0).bind fun t119 => (if t119 = a0 then ((class_wides.f).bind fun t120 => ((class_in.f a0 t120).bind fun t123 => (if t123 = 0 then (some 1) else (some t123)))) else (some 3))) else (some t118)) = some r := H
   have A9 := Aside0.mk A90
   clear A90
   by_cases c10 : t118 = 0
   ·rw [if_pos c10] at H
    have c10b0 : (t118 == 0) = true := beq_iff_eq.mpr c10
    have c10b1 : (t118 != 0) = false := bne_eq_false_iff_eq.mpr c10
    clear c10
    replace H := Option.bind_eq_some_iff.mp H
    obtain ⟨t119, A110, H⟩ := H
    replace H : (if t119 = a0 then ((class_wides.f).bind fun t120 => ((class_in.f a0 t120).bind fun t123 => (if t123 = 0 then (some 1) else (some t123)))) else (some 3)) = some r := H
    have A11 := Aside0.mk A110
    clear A110
    by_cases c12 : t119 = a0
    ·rw [if_pos c12] at H
     have c12b0 : (t119 == a0) = true := beq_iff_eq.mpr c12
     have c12b1 : (t119 != a0) = false := bne_eq_false_iff_eq.mpr c12
     clear c12
     replace H := Option.bind_eq_some_iff.mp H
     obtain ⟨t120, A130, H⟩ := H
     replace H : ((class_in.f a0 t120).bind fun t123 => (if t123 = 0 then (some 1) else (some t123))) = some r := H
     have A13 := Aside0.mk A130
     clear A130
     replace H := Option.bind_eq_some_iff.mp H
     obtain ⟨t123, A140, H⟩ := H
     replace H : (if t123 = 0 then (some 1) else (some t123)) = some r := H
     have A14 := Aside0.mk A140
     clear A140
     by_cases c15 : t123 = 0
     ·rw [if_pos c15] at H
      have c15b0 : (t123 == 0) = true := beq_iff_eq.mpr c15
      have c15b1 : (t123 != 0) = false := bne_eq_false_iff_eq.mpr c15
      clear c15
      obtain rfl := Option.some.inj H
      go_wp2_with (first | ((with_reducible refine gate_callee (f := 61) rfl ?_); refine goesL_ (some 20) rfl rfl Try.func61 (by kernel_rfl) rfl #[] rfl zl ?_; (with_reducible refine (class_spans.calls  t115 _ A8.out).mono ?_); rintro e w16 ⟨v116, rfl, ho0, hb⟩; refine ⟨_, rfl, ?_⟩; have n0_ := Aside0.mk (Kd.R_lower ho0 (below_size zb)); have n1_ := Aside0.mk (below_step zb hb); clear HB; have HO117 := n0_; have HB := n1_; clear n0_ n1_; (try clear hb); (try clear hb2); (try clear hk); (try clear hi); (try clear ho0); obtain ⟨Ao17, co17, eo17⟩ := Kd.R_slice HO117.out; subst eo17) | ((with_reducible refine gate_callee (f := 60) rfl ?_); refine goesL_ (some 21) rfl rfl Try.func60 (by kernel_rfl) rfl #[.int .i64 a0, .slice Ao17 t115.length co17] rfl zl ?_; (with_reducible refine (class_in.calls a0 _ _ t115 t118 _ ?side1 ?side2 A9.out).mono ?_); (case side1 => repeat (first | exact (Kd.R_reads' HO117.out).2.2 | (with_reducible refine Kd.C_alloc ?_ _) | (with_reducible refine Kd.C_drewN ?_ _) | (with_reducible refine Kd.C_drew ?_))); (case side2 => exact (Kd.R_reads' HO117.out).2.1); rintro e w18 ⟨rfl, hb⟩; refine ⟨_, rfl, ?_⟩; have n0_ := Aside0.mk (Kd.R_below (zk HO117.out) hb); have n1_ := Aside0.mk (below_step zb hb); clear HO117; clear HB; have HO117 := n0_; have HB := n1_; clear n0_ n1_; (try clear hb); (try clear hb2); (try clear hk); (try clear hi)) | ((with_reducible refine gate_callee (f := 62) rfl ?_); refine goesL_ (some 26) rfl rfl Try.func62 (by kernel_rfl) rfl #[.int .i64 a0] rfl zl ?_; (with_reducible refine (class_Skeleton.calls a0 t119 _ A11.out).mono ?_); rintro e w19 ⟨rfl, hb⟩; refine ⟨_, rfl, ?_⟩; have n0_ := Aside0.mk (Kd.R_below (zk HO117.out) hb); have n1_ := Aside0.mk (below_step zb hb); clear HO117; clear HB; have HO117 := n0_; have HB := n1_; clear n0_ n1_; (try clear hb); (try clear hb2); (try clear hk); (try clear hi)) | ((with_reducible refine gate_callee (f := 63) rfl ?_); refine goesL_ (some 30) rfl rfl Try.func63 (by kernel_rfl) rfl #[] rfl zl ?_; (with_reducible refine (class_wides.calls  t120 _ A13.out).mono ?_); rintro e w20 ⟨v121, rfl, ho0, hb⟩; refine ⟨_, rfl, ?_⟩; have n0_ := Aside0.mk (Kd.R_elder' (zk HO117.out) (Kd.R_base ho0) hb); have n1_ := Aside0.mk (Kd.R_lower (Kd.R_new' ho0 (Kd.R_lt (zk HO117.out))) (below_size zb)); have n2_ := Aside0.mk (below_step zb hb); clear HO117; clear HB; have HO117 := n0_; have HO122 := n1_; have HB := n2_; clear n0_ n1_ n2_; (try clear hb); (try clear hb2); (try clear hk); (try clear hi); (try clear ho0); obtain ⟨Ao21, co21, eo21⟩ := Kd.R_slice HO122.out; subst eo21) | ((with_reducible refine gate_callee (f := 60) rfl ?_); refine goesL_ (some 31) rfl rfl Try.func60 (by kernel_rfl) rfl #[.int .i64 a0, .slice Ao21 t120.length co21] rfl zl ?_; (with_reducible refine (class_in.calls a0 _ _ t120 t123 _ ?side1 ?side2 A14.out).mono ?_); (case side1 => repeat (first | exact (Kd.R_reads' HO122.out).2.2 | (with_reducible refine Kd.C_alloc ?_ _) | (with_reducible refine Kd.C_drewN ?_ _) | (with_reducible refine Kd.C_drew ?_))); (case side2 => exact (Kd.R_reads' HO122.out).2.1); rintro e w22 ⟨rfl, hb⟩; refine ⟨_, rfl, ?_⟩; have n0_ := Aside0.mk (Kd.R_below (zk HO117.out) hb); have n1_ := Aside0.mk (Kd.R_below (zk HO122.out) hb); have n2_ := Aside0.mk (below_step zb hb); clear HO117; clear HO122; clear HB; have HO117 := n0_; have HO122 := n1_; have HB := n2_; clear n0_ n1_ n2_; (try clear hb); (try clear hb2); (try clear hk); (try clear hi)))
      go_ret
      exact ⟨zr, zb⟩
     ·rw [if_neg c15] at H
      have c15b0 : (t123 == 0) = false := beq_eq_false_iff_ne.mpr c15
      have c15b1 : (t123 != 0) = true := bne_iff_ne.mpr c15
      obtain rfl := Option.some.inj H
      go_wp2_with (first | ((with_reducible refine gate_callee (f := 61) rfl ?_); refine goesL_ (some 20) rfl rfl Try.func61 (by kernel_rfl) rfl #[] rfl zl ?_; (with_reducible refine (class_spans.calls  t115 _ A8.out).mono ?_); rintro e w23 ⟨v116, rfl, ho0, hb⟩; refine ⟨_, rfl, ?_⟩; have n0_ := Aside0.mk (Kd.R_lower ho0 (below_size zb)); have n1_ := Aside0.mk (below_step zb hb); clear HB; have HO117 := n0_; have HB := n1_; clear n0_ n1_; (try clear hb); (try clear hb2); (try clear hk); (try clear hi); (try clear ho0); obtain ⟨Ao24, co24, eo24⟩ := Kd.R_slice HO117.out; subst eo24) | ((with_reducible refine gate_callee (f := 60) rfl ?_); refine goesL_ (some 21) rfl rfl Try.func60 (by kernel_rfl) rfl #[.int .i64 a0, .slice Ao24 t115.length co24] rfl zl ?_; (with_reducible refine (class_in.calls a0 _ _ t115 t118 _ ?side1 ?side2 A9.out).mono ?_); (case side1 => repeat (first | exact (Kd.R_reads' HO117.out).2.2 | (with_reducible refine Kd.C_alloc ?_ _) | (with_reducible refine Kd.C_drewN ?_ _) | (with_reducible refine Kd.C_drew ?_))); (case side2 => exact (Kd.R_reads' HO117.out).2.1); rintro e w25 ⟨rfl, hb⟩; refine ⟨_, rfl, ?_⟩; have n0_ := Aside0.mk (Kd.R_below (zk HO117.out) hb); have n1_ := Aside0.mk (below_step zb hb); clear HO117; clear HB; have HO117 := n0_; have HB := n1_; clear n0_ n1_; (try clear hb); (try clear hb2); (try clear hk); (try clear hi)) | ((with_reducible refine gate_callee (f := 62) rfl ?_); refine goesL_ (some 26) rfl rfl Try.func62 (by kernel_rfl) rfl #[.int .i64 a0] rfl zl ?_; (with_reducible refine (class_Skeleton.calls a0 t119 _ A11.out).mono ?_); rintro e w26 ⟨rfl, hb⟩; refine ⟨_, rfl, ?_⟩; have n0_ := Aside0.mk (Kd.R_below (zk HO117.out) hb); have n1_ := Aside0.mk (below_step zb hb); clear HO117; clear HB; have HO117 := n0_; have HB := n1_; clear n0_ n1_; (try clear hb); (try clear hb2); (try clear hk); (try clear hi)) | ((with_reducible refine gate_callee (f := 63) rfl ?_); refine goesL_ (some 30) rfl rfl Try.func63 (by kernel_rfl) rfl #[] rfl zl ?_; (with_reducible refine (class_wides.calls  t120 _ A13.out).mono ?_); rintro e w27 ⟨v121, rfl, ho0, hb⟩; refine ⟨_, rfl, ?_⟩; have n0_ := Aside0.mk (Kd.R_elder' (zk HO117.out) (Kd.R_base ho0) hb); have n1_ := Aside0.mk (Kd.R_lower (Kd.R_new' ho0 (Kd.R_lt (zk HO117.out))) (below_size zb)); have n2_ := Aside0.mk (below_step zb hb); clear HO117; clear HB; have HO117 := n0_; have HO122 := n1_; have HB := n2_; clear n0_ n1_ n2_; (try clear hb); (try clear hb2); (try clear hk); (try clear hi); (try clear ho0); obtain ⟨Ao28, co28, eo28⟩ := Kd.R_slice HO122.out; subst eo28) | ((with_reducible refine gate_callee (f := 60) rfl ?_); refine goesL_ (some 31) rfl rfl Try.func60 (by kernel_rfl) rfl #[.int .i64 a0, .slice Ao28 t120.length co28] rfl zl ?_; (with_reducible refine (class_in.calls a0 _ _ t120 t123 _ ?side1 ?side2 A14.out).mono ?_); (case side1 => repeat (first | exact (Kd.R_reads' HO122.out).2.2 | (with_reducible refine Kd.C_alloc ?_ _) | (with_reducible refine Kd.C_drewN ?_ _) | (with_reducible refine Kd.C_drew ?_))); (case side2 => exact (Kd.R_reads' HO122.out).2.1); rintro e w29 ⟨rfl, hb⟩; refine ⟨_, rfl, ?_⟩; have n0_ := Aside0.mk (Kd.R_below (zk HO117.out) hb); have n1_ := Aside0.mk (Kd.R_below (zk HO122.out) hb); have n2_ := Aside0.mk (below_step zb hb); clear HO117; clear HO122; clear HB; have HO117 := n0_; have HO122 := n1_; have HB := n2_; clear n0_ n1_ n2_; (try clear hb); (try clear hb2); (try clear hk); (try clear hi)))
      go_ret
      exact ⟨zr, zb⟩
    ·rw [if_neg c12] at H
     have c12b0 : (t119 == a0) = false := beq_eq_false_iff_ne.mpr c12
     have c12b1 : (t119 != a0) = true := bne_iff_ne.mpr c12
     obtain rfl := Option.some.inj H
     go_wp2_with (first | ((with_reducible refine gate_callee (f := 61) rfl ?_); refine goesL_ (some 20) rfl rfl Try.func61 (by kernel_rfl) rfl #[] rfl zl ?_; (with_reducible refine (class_spans.calls  t115 _ A8.out).mono ?_); rintro e w30 ⟨v116, rfl, ho0, hb⟩; refine ⟨_, rfl, ?_⟩; have n0_ := Aside0.mk (Kd.R_lower ho0 (below_size zb)); have n1_ := Aside0.mk (below_step zb hb); clear HB; have HO117 := n0_; have HB := n1_; clear n0_ n1_; (try clear hb); (try clear hb2); (try clear hk); (try clear hi); (try clear ho0); obtain ⟨Ao31, co31, eo31⟩ := Kd.R_slice HO117.out; subst eo31) | ((with_reducible refine gate_callee (f := 60) rfl ?_); refine goesL_ (some 21) rfl rfl Try.func60 (by kernel_rfl) rfl #[.int .i64 a0, .slice Ao31 t115.length co31] rfl zl ?_; (with_reducible refine (class_in.calls a0 _ _ t115 t118 _ ?side1 ?side2 A9.out).mono ?_); (case side1 => repeat (first | exact (Kd.R_reads' HO117.out).2.2 | (with_reducible refine Kd.C_alloc ?_ _) | (with_reducible refine Kd.C_drewN ?_ _) | (with_reducible refine Kd.C_drew ?_))); (case side2 => exact (Kd.R_reads' HO117.out).2.1); rintro e w32 ⟨rfl, hb⟩; refine ⟨_, rfl, ?_⟩; have n0_ := Aside0.mk (Kd.R_below (zk HO117.out) hb); have n1_ := Aside0.mk (below_step zb hb); clear HO117; clear HB; have HO117 := n0_; have HB := n1_; clear n0_ n1_; (try clear hb); (try clear hb2); (try clear hk); (try clear hi)) | ((with_reducible refine gate_callee (f := 62) rfl ?_); refine goesL_ (some 26) rfl rfl Try.func62 (by kernel_rfl) rfl #[.int .i64 a0] rfl zl ?_; (with_reducible refine (class_Skeleton.calls a0 t119 _ A11.out).mono ?_); rintro e w33 ⟨rfl, hb⟩; refine ⟨_, rfl, ?_⟩; have n0_ := Aside0.mk (Kd.R_below (zk HO117.out) hb); have n1_ := Aside0.mk (below_step zb hb); clear HO117; clear HB; have HO117 := n0_; have HB := n1_; clear n0_ n1_; (try clear hb); (try clear hb2); (try clear hk); (try clear hi)))
     go_ret
     exact ⟨zr, zb⟩
   ·rw [if_neg c10] at H
    have c10b0 : (t118 == 0) = false := beq_eq_false_iff_ne.mpr c10
    have c10b1 : (t118 != 0) = true := bne_iff_ne.mpr c10
    obtain rfl := Option.some.inj H
    go_wp2_with (first | ((with_reducible refine gate_callee (f := 61) rfl ?_); refine goesL_ (some 20) rfl rfl Try.func61 (by kernel_rfl) rfl #[] rfl zl ?_; (with_reducible refine (class_spans.calls  t115 _ A8.out).mono ?_); rintro e w34 ⟨v116, rfl, ho0, hb⟩; refine ⟨_, rfl, ?_⟩; have n0_ := Aside0.mk (Kd.R_lower ho0 (below_size zb)); have n1_ := Aside0.mk (below_step zb hb); clear HB; have HO117 := n0_; have HB := n1_; clear n0_ n1_; (try clear hb); (try clear hb2); (try clear hk); (try clear hi); (try clear ho0); obtain ⟨Ao35, co35, eo35⟩ := Kd.R_slice HO117.out; subst eo35) | ((with_reducible refine gate_callee (f := 60) rfl ?_); refine goesL_ (some 21) rfl rfl Try.func60 (by kernel_rfl) rfl #[.int .i64 a0, .slice Ao35 t115.length co35] rfl zl ?_; (with_reducible refine (class_in.calls a0 _ _ t115 t118 _ ?side1 ?side2 A9.out).mono ?_); (case side1 => repeat (first | exact (Kd.R_reads' HO117.out).2.2 | (with_reducible refine Kd.C_alloc ?_ _) | (with_reducible refine Kd.C_drewN ?_ _) | (with_reducible refine Kd.C_drew ?_))); (case side2 => exact (Kd.R_reads' HO117.out).2.1); rintro e w36 ⟨rfl, hb⟩; refine ⟨_, rfl, ?_⟩; have n0_ := Aside0.mk (Kd.R_below (zk HO117.out) hb); have n1_ := Aside0.mk (below_step zb hb); clear HO117; clear HB; have HO117 := n0_; have HB := n1_; clear n0_ n1_; (try clear hb); (try clear hb2); (try clear hk); (try clear hi)))
    go_ret
    exact ⟨zr, zb⟩

/-! ### class_Width: function 32 -/
def class_Width.j0 : Nat → Int → Bool → Option (Int)
 | 0, _, _ => none
 | k + 1, x4, x5 => if x5 = true then (some 1) else (if x4 = 2 then (some 2) else (some 0))
def class_Width.f (k : Nat) (a0 : Int) : Option (Int) := (class_Of.f k a0).bind fun t124 => (if t124 = 1 then (class_Width.j0 k t124 (t124 == 1)) else (class_Width.j0 k t124 (t124 == 3)))
theorem class_Width.mono_l : ∀ k, (∀ y0 y1, LeO (class_Width.j0 k y0 y1) (class_Width.j0 (k + 1) y0 y1))
 | 0 => fun _ _ r h => by simp [class_Width.j0] at h
 | k + 1 => by
  have ih0 := class_Width.mono_l k
  ·intro y0 y1
   unfold class_Width.j0
   repeat' first
   | (with_reducible exact ih0 _ _)
   | (with_reducible exact class_Of.mono _ _)
   | (with_reducible exact LeO.refl _)
   | (with_reducible exact LeO.none _)
   | (with_reducible refine LeO.ite ?_ ?_)
   | (with_reducible refine LeO.bind ?_ (fun _ => ?_))
   | exact ih0 _ _
   | exact class_Of.mono _ _
   | exact LeO.none _
   | refine LeO.ite ?_ ?_
   | refine LeO.bind ?_ (fun _ => ?_)
theorem class_Width.mono : ∀ a0 k, LeO (class_Width.f k a0) (class_Width.f (k + 1) a0) := by
 intro a0 k
 have ih0 := class_Width.mono_l k
 unfold class_Width.f
 repeat' first
   | (with_reducible exact ih0 _ _)
   | (with_reducible exact class_Of.mono _ _)
   | (with_reducible exact LeO.refl _)
   | (with_reducible exact LeO.none _)
   | (with_reducible refine LeO.ite ?_ ?_)
   | (with_reducible refine LeO.bind ?_ (fun _ => ?_))
   | exact ih0 _ _
   | exact class_Of.mono _ _
   | exact LeO.none _
   | refine LeO.ite ?_ ?_
   | refine LeO.bind ?_ (fun _ => ?_)
set_option maxHeartbeats 8000000 in
set_option maxRecDepth 100000 in
theorem class_Width.calls (k : Nat) (a0 : Int) (r : Int) (w : World) (h : class_Width.f k a0 = some r) :
  Calls Try.prog 32 #[.int .i64 a0] w fun e w' => e = .returned (.int .i64 r) ∧ Below w.heap.size w w' := by
 have HB := Aside0.mk (Below.refl w.heap.size w)
 have H : ((class_Of.f k a0).bind fun t124 => (if t124 = 1 then (class_Width.j0 k t124 (t124 == 1)) else (class_Width.j0 k t124 (t124 == 3)))) = some r := h
 clear h
 replace H := Option.bind_eq_some_iff.mp H
 obtain ⟨t124, A20, H⟩ := H
 replace H : (if t124 = 1 then (class_Width.j0 k t124 (t124 == 1)) else (class_Width.j0 k t124 (t124 == 3))) = some r := H
 have A2 := Aside0.mk A20
 clear A20
 have HC3 := Aside0.mk H
 clear H
 go_enter Try.func32, Try.ntmps32
 go_upto_if 5 with (first | ((with_reducible refine gate_callee (f := 49) rfl ?_); refine goesL_ (some 4) rfl rfl Try.func49 (by kernel_rfl) rfl #[.int .i64 a0] rfl zl ?_; (with_reducible refine (class_Of.calls k a0 t124 _ A2.out).mono ?_); rintro e w4 ⟨rfl, hb⟩; refine ⟨_, rfl, ?_⟩; have n0_ := Aside0.mk (below_step zb hb); clear HB; have HB := n0_; clear n0_; (try clear hb); (try clear hb2); (try clear hk); (try clear hi)))
 (try simp only [Act.put, List.setIfInBounds_toArray, List.set_cons_zero, List.set_cons_succ])
 go_cut [5] (fun v5 wc => ∃ (kq : Nat) (x5_2 : Bool), v5 = .bool x5_2 ∧ Aside0 (class_Width.j0 kq t124 x5_2 = some r) ∧ Aside0 (kq ≤ k) ∧ Aside0 (Below w.heap.size w wc))
 case first =>
  have H := HC3.out
  clear HC3
  by_cases c5 : t124 = 1
  ·rw [if_pos c5] at H
   have c5b0 : (t124 == 1) = true := beq_iff_eq.mpr c5
   have c5b1 : (t124 != 1) = false := bne_eq_false_iff_eq.mpr c5
   clear c5
   (first | rw [c5b0] | (simp only [i64_w, i32_w]; rw [c5b0]) | skip)
   have H' := Aside0.mk H
   clear H
   go_wp2
   go_meet
   case rel => exact ⟨_, ((t124 == 1)), (by first | rfl | (simp; done) | (simp [*]; done)), H', ⟨by first | omega | exact Nat.le_refl _⟩, ⟨by repeat (first | (with_reducible first | exact HB.out | apply below_alloc | apply pw_below_drewN | apply below_drew1) | exact HB.out)⟩⟩
  ·rw [if_neg c5] at H
   have c5b0 : (t124 == 1) = false := beq_eq_false_iff_ne.mpr c5
   have c5b1 : (t124 != 1) = true := bne_iff_ne.mpr c5
   (first | rw [c5b0] | (simp only [i64_w, i32_w]; rw [c5b0]) | skip)
   have H' := Aside0.mk H
   clear H
   go_wp2
   go_meet
   case rel => exact ⟨_, ((t124 == 3)), (by first | rfl | (simp; done) | (simp [*]; done)), H', ⟨by first | omega | exact Nat.le_refl _⟩, ⟨by repeat (first | (with_reducible first | exact HB.out | apply below_alloc | apply pw_below_drewN | apply below_drew1) | exact HB.out)⟩⟩
 case rest =>
  clear HC3
  try clear p2
  try clear c3
  try clear c4
  try clear c5
  try clear c5b0
  try clear c5b1
  obtain ⟨kq, x5_2, rfl, HA, HJ2, HB⟩ := hcut
  cases kq with
  | zero => exact absurd HA.out (by simp [class_Width.j0])
  | succ kj2 =>
   have H := HA.out
   clear HA
   simp only [class_Width.j0] at H
   by_cases c6 : x5_2 = true
   ·subst c6
    have H1 : (some 1) = some r := by rw [if_pos rfl] at H; exact H
    clear H
    have H := H1
    clear H1
    obtain rfl := Option.some.inj H
    go_wp2
    go_ret
    exact ⟨zr, zb⟩
   ·replace c6 := Bool.eq_false_iff.mpr c6
    subst c6
    have H1 : (if t124 = 2 then (some 2) else (some 0)) = some r := by rw [if_neg (show ¬ (false = true) by decide)] at H; exact H
    clear H
    have H := H1
    clear H1
    by_cases c7 : t124 = 2
    ·rw [if_pos c7] at H
     have c7b0 : (t124 == 2) = true := beq_iff_eq.mpr c7
     have c7b1 : (t124 != 2) = false := bne_eq_false_iff_eq.mpr c7
     clear c7
     obtain rfl := Option.some.inj H
     go_wp2
     go_ret
     exact ⟨zr, zb⟩
    ·rw [if_neg c7] at H
     have c7b0 : (t124 == 2) = false := beq_eq_false_iff_ne.mpr c7
     have c7b1 : (t124 != 2) = true := bne_iff_ne.mpr c7
     obtain rfl := Option.some.inj H
     go_wp2
     go_ret
     exact ⟨zr, zb⟩

-- NOT PRINTED: function 41 (emit_plain_1)

/-! ### slices_IndexFunc_int_int: function 53 -/
def idx_int.g (p : Int → Bool) : List Int → Nat → Int
 | [], _ => -1
 | x :: xs, i => if p x = true then (i : Int) else idx_int.g p xs (i + 1)
theorem idx_int.g_drop (p : Int → Bool) (l : List Int) (k : Nat) (h : k < l.length) : idx_int.g p (l.drop k) k = if p (rd l (k : Int)) = true then (k : Int) else idx_int.g p (l.drop (k + 1)) (k + 1) := by
 rw [List.drop_eq_getElem_cons h]
 have e : rd l (k : Int) = l[k] := by
  unfold rd
  rw [Int.toNat_natCast, List.getD_eq_getElem?_getD, List.getElem?_eq_getElem h]
  rfl
 rw [e]
 rfl
theorem idx_int.mem (l : List Int) (k : Nat) (h : k < l.length) : rd l (k : Int) ∈ l := by
 have e : rd l (k : Int) = l[k] := by
  unfold rd
  rw [Int.toNat_natCast, List.getD_eq_getElem?_getD, List.getElem?_eq_getElem h]
  rfl
 rw [e]
 exact List.getElem_mem h
theorem idx_int.g_ge (p : Int → Bool) (l : List Int) : ∀ i : Nat, decide (idx_int.g p l i ≥ 0) = l.any p := by
 induction l with
 | nil => intro i; rfl
 | cons x xs ih =>
  intro i
  by_cases h : p x = true
  ·simp only [idx_int.g, if_pos h, List.any_cons, h, Bool.true_or]
   exact decide_eq_true (by omega : (i : Int) ≥ 0)
  ·simp only [idx_int.g, if_neg h, List.any_cons, ih (i + 1)]
   simp [h]
theorem idx_int.g_lt (p : Int → Bool) (l : List Int) : ∀ i : Nat, idx_int.g p l i < (i : Int) + (l.length : Int) ∨ idx_int.g p l i = -1 := by
 induction l with
 | nil => intro i; exact .inr rfl
 | cons x xs ih =>
  intro i
  unfold idx_int.g
  split
  ·left; simp only [List.length_cons]; omega
  ·rcases ih (i + 1) with h | h
   ·left; simp only [List.length_cons]; omega
   ·exact .inr h
set_option maxHeartbeats 8000000 in
set_option maxRecDepth 100000 in
theorem idx_int.calls (p : Int → Bool) (g : Nat) (lb : Array Value) (eg : ∀ args w, (callFunc g args).run Try.prog w = .ok (.enter g args) w)
  (A1 : Option Addr) (c1 : Nat) (l1 : List Int) (w : World) (hr1 : Kd.C (Kd.int .i64) w A1 l1.length l1) (hl1 : l1.length < 9223372036854775807)
  (hp : ∀ (W : World) (x : Int), x ∈ l1 → Below w.heap.size w W → Calls Try.prog g (#[.int .i64 x] ++ lb) W fun e w' => e = .returned (.bool (p x)) ∧ Below W.heap.size W w') :
  Calls Try.prog 53 #[.slice A1 l1.length c1, .func (.func g) #[] lb] w fun e w' => e = .returned (.int .i64 (idx_int.g p l1 0)) ∧ Below w.heap.size w w' := by
 have HR1 := Aside0.mk hr1
 have HP := Aside0.mk hp
 clear hr1 hp
 generalize hn : l1.length = n at hl1 HR1 ⊢
 have HN := Aside0.mk hn
 clear hn
 go_enter Try.func53, Try.ntmps53
 go_wp2
 go_loopg [5, 8] n (fun gg _ s8 wr => ∃ kk : Nat, kk ≤ n ∧ n - kk ≤ gg ∧ s8 = .int .i64 kk ∧ Aside0 (Below w.heap.size w wr) ∧ Aside0 (idx_int.g p (l1.drop kk) kk = idx_int.g p l1 0))
 case atStart => exact ⟨0, Nat.zero_le _, by omega, rfl, ⟨Below.refl _ w⟩, ⟨by simp⟩⟩
 case round =>
  obtain ⟨kk, hkk, hg, rfl, BW, A⟩ := hrel
  by_cases hlt : kk < n
  ·have hltz : (kk : Int) < (n : Int) := by omega
   have hlen : kk < l1.length := by rw [HN.out]; exact hlt
   obtain ⟨ad, e0, hx0⟩ := Kd.at_int (Kd.C_below HR1.out BW.out) (kk : Int) (by omega) (by omega)
   cases e0
   have hgd := idx_int.g_drop p l1 kk hlen
   have hcall := HP.out wr (rd l1 (kk : Int)) (idx_int.mem l1 kk hlen) BW.out
   have hk0 : 0 ≤ (kk : Int) := by omega
   simp only [Int.toNat_natCast] at hx0
   generalize hy : rd l1 (kk : Int) = y at hcall hgd hx0
   clear hy
   cases hq : p y with
   | true =>
    rw [hq] at hcall
    have A2 : Aside0 (idx_int.g p l1 0 = (kk : Int)) := ⟨by rw [← A.out, hgd, if_pos hq]⟩
    clear A hgd hq hlen HP
    go_wp2_with fail
    refine hcall.mono ?_
    rintro e w' ⟨rfl, hb'⟩
    clear hcall hx0
    go_wp2_with fail
    go_ret
    exact ⟨by rw [A2.out]; rfl, below_then BW.out BW.out.size hb'⟩
   | false =>
    rw [hq] at hcall
    have A2 : Aside0 (idx_int.g p (l1.drop (kk + 1)) (kk + 1) = idx_int.g p l1 0) := ⟨by rw [← A.out, hgd, if_neg (by simp [hq])]⟩
    clear A hgd hq hlen HP
    go_wp2_with fail
    refine hcall.mono ?_
    rintro e w' ⟨rfl, hb'⟩
    clear hcall hx0
    go_wp2_with fail
    go_roundg (n - (kk + 1))
    case measure => omega
    case rel => exact ⟨kk + 1, by omega, by omega, by go_num, ⟨below_then BW.out BW.out.size hb'⟩, A2⟩
  ·have hltz : ¬ (kk : Int) < (n : Int) := by omega
   have : kk = n := by omega
   subst this
   have A2 : Aside0 (idx_int.g p l1 0 = -1) := ⟨by rw [← A.out, List.drop_eq_nil_of_le (by rw [HN.out]; exact Nat.le_refl _)]; rfl⟩
   clear A HP
   go_wp2
   go_ret
   exact ⟨by rw [A2.out]; rfl, BW.out⟩

/-! ### slices_ContainsFunc_int_int: function 42 -/
set_option maxHeartbeats 8000000 in
set_option maxRecDepth 100000 in
theorem cont_int.calls (p : Int → Bool) (g : Nat) (lb : Array Value) (eg : ∀ args w, (callFunc g args).run Try.prog w = .ok (.enter g args) w)
  (A1 : Option Addr) (c1 : Nat) (l1 : List Int) (w : World) (hr1 : Kd.C (Kd.int .i64) w A1 l1.length l1) (hl1 : l1.length < 9223372036854775807)
  (hp : ∀ (W : World) (x : Int), x ∈ l1 → Below w.heap.size w W → Calls Try.prog g (#[.int .i64 x] ++ lb) W fun e w' => e = .returned (.bool (p x)) ∧ Below W.heap.size W w') :
  Calls Try.prog 42 #[.slice A1 l1.length c1, .func (.func g) #[] lb] w fun e w' => e = .returned (.bool (l1.any p)) ∧ Below w.heap.size w w' := by
 have hcall := idx_int.calls p g lb eg A1 c1 l1 w hr1 hl1 hp
 have hge := Aside0.mk (idx_int.g_ge p l1 0)
 clear hr1 hp
 generalize idx_int.g p l1 0 = r at hcall hge
 generalize l1.length = n at hcall hl1 ⊢
 go_enter Try.func42, Try.ntmps42
 go_wp2_with (go_at_call 53; refine hcall.mono ?_; rintro e w' ⟨rfl, hb'⟩)
 go_ret
 exact ⟨by rw [← hge.out]; rfl, hb'⟩

/-! ### emit_plain: function 25 -/
def emit_plain.p (x : Int) : Bool := ((class_Width.f 100 x).getD 0) == 0
def emit_plain.f (a0 : ByteArray) : Option Bool := if a0.toList = [] then some false else (utf_Decode.f a0).bind fun l => if l.all (fun x => (class_Width.f 100 x).isSome) = true then (if l.length < 9223372036854775807 then some (!(l.any emit_plain.p)) else none) else none
set_option maxHeartbeats 8000000 in
set_option maxRecDepth 100000 in
theorem emit_plain.pred (W : World) (x : Int) (hx : (class_Width.f 100 x).isSome = true) :
  Calls Try.prog 41 (#[.int .i64 x] ++ #[]) W fun e w' => e = .returned (.bool (emit_plain.p x)) ∧ Below W.heap.size W w' := by
 obtain ⟨r, hr⟩ := Option.isSome_iff_exists.mp hx
 have hp : Aside0 (emit_plain.p x = (r == 0)) := ⟨by unfold emit_plain.p; rw [hr]; rfl⟩
 have hc := Aside0.mk (class_Width.calls 100 x r W hr)
 clear hr hx
 show Calls Try.prog 41 #[.int .i64 x] W _
 go_enter Try.func41, Try.ntmps41
 go_wp2_with fail
 refine hc.out.mono ?_
 rintro e w' ⟨rfl, hb'⟩
 clear hc
 go_wp2_with fail
 go_ret
 exact ⟨by rw [hp.out]; rfl, hb'⟩
set_option maxHeartbeats 8000000 in
set_option maxRecDepth 100000 in
theorem emit_plain.calls (a0 : ByteArray) (r : Bool) (w : World) (h : emit_plain.f a0 = some r) :
  Calls Try.prog 25 #[.string a0] w fun e w' => e = .returned (.bool r) ∧ Below w.heap.size w w' := by
 unfold emit_plain.f at h
 by_cases hs : a0.toList = []
 ·rw [if_pos hs] at h
  obtain rfl := Option.some.inj h
  clear h
  go_enter Try.func25, Try.ntmps25
  go_wp2
  go_ret
  exact ⟨rfl, Below.refl _ _⟩
 ·rw [if_neg hs] at h
  obtain ⟨l, hl, h⟩ := Option.bind_eq_some_iff.mp h
  by_cases ha : l.all (fun x => (class_Width.f 100 x).isSome) = true
  ·rw [if_pos ha] at h
   by_cases hn : l.length < 9223372036854775807
   ·rw [if_pos hn] at h
    obtain rfl := Option.some.inj h
    clear h
    have eg : ∀ args w, (callFunc 41 args).run Try.prog w = .ok (.enter 41 args) w := enters_of Try.func41 (by kernel_rfl) rfl
    have HD := Aside0.mk (utf_Decode.calls a0 l w hl)
    have HC := Aside0.mk (cont_int.calls emit_plain.p 41 #[] eg)
    have HA := Aside0.mk ha
    have hs2 : (!a0.toList.isEmpty) = true := by
     cases hq : a0.toList with
     | nil => exact absurd hq hs
     | cons x xs => rfl
    generalize hk : l.any emit_plain.p = k at *
    have HK := Aside0.mk hk
    clear eg hl ha hk
    go_enter Try.func25, Try.ntmps25
    go_wp2_with fail
    refine HD.out.mono ?_
    rintro e w1 ⟨v0, rfl, hR, hb1⟩
    clear HD
    obtain ⟨A, c, rfl, hc, hC⟩ := Kd.R_reads hR
    have H2 := Aside0.mk (HC.out A c l w1 hC hn (fun W x hx _ => emit_plain.pred W x (List.all_eq_true.mp HA.out x hx)))
    have HB := Aside0.mk hb1
    clear hR hc hC HC hb1
    go_wp2_with fail
    refine H2.out.mono ?_
    rintro e w2 ⟨rfl, hb2⟩
    clear H2
    go_wp2_with fail
    go_ret
    exact ⟨by rw [← HK.out]; rfl, below_then HB.out HB.out.size hb2⟩
   ·rw [if_neg hn] at h; cases h
  ·rw [if_neg ha] at h; cases h

end Go.Proofs.Ytddkmhkglmcihaa.PAll
