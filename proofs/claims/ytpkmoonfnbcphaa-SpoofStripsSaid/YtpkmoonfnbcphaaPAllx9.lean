-- Printed for this claim by the session's own program (wip/tool/hprint.py) over the kit's print; some functions' texts are the session's own.
import Derived.Test.YtpkmoonfnbcphaaPAllx0
import Derived.Test.YtpkmoonfnbcphaaPAllx2
import Derived.Test.YtpkmoonfnbcphaaPAllx3
import Derived.Test.YtpkmoonfnbcphaaPAllx5
import Derived.Test.YtpkmoonfnbcphaaPAllx6
import Derived.Test.YtpkmoonfnbcphaaPAllx7
import Derived.Test.YtpkmoonfnbcphaaPAllx8
namespace Go.Proofs.Ytpkmoonfnbcphaa.PAll
open Go.RowKit Go.Proofs.YtpkmoonfnbcphaaW.PrintWords Go.Proofs.YtpkmoonfnbcphaaW.PrintLast Go.Proofs.YtpkmoonfnbcphaaW.PrintMore
attribute [local go_sem] max2_int min2_int max_two min_two max_three min_three max_four min_four   -- for this text's walks alone
set_option linter.unusedVariables false
set_option linter.unusedSimpArgs false

/-! ### dactyllaw44_SpoofStrips: function 3 -/
def dactyllaw44_SpoofStrips.l0 : Nat → ByteArray → ByteArray → ByteArray → ByteArray → List Int → Int → Option (Bool)
 | 0, _, _, _, _, _, _ => none
 | k + 1, x0, x3, x4, x5, x6, x7 => if x7 < (x6.length : Int) then (if 0 ≤ x7 then ((dactylref03_Of.f k (rd x6 x7)).bind fun t320 => (if t320 > 3 then (some false) else (dactyllaw44_SpoofStrips.l0 k x0 x3 x4 x5 x6 (wrap64 (x7 + 1))))) else (none)) else ((dactyllaw44_awake.f k).bind fun t321 => (if t321 = true then ((dactylref44_Strip.f k x0).bind fun t322 => (if x3.toList = t322.toList then ((dactylref44_Tell.f k x0).bind fun t323 => (if x4.toList = t323.toList then ((dactylref44_Fold.f k x0).bind fun t324 => (if x5.toList = t324.toList then ((spoof_Strip.f k x3).bind fun t325 => (if t325.toList = x3.toList then ((spoof_Strip.f k x4).bind fun t326 => (if t326.toList = x4.toList then ((spoof_Fold.f k x3).bind fun t327 => ((spoof_Fold.f k x3).bind fun t328 => ((spoof_Fold.f k t328).bind fun t329 => (if t327.toList = t329.toList then ((spoof_Fold.f k x5).bind fun t330 => (some (t330.toList == x5.toList))) else (some false))))) else (some false))) else (some false))) else (some false))) else (some false))) else (some false))) else (some false)))
def dactyllaw44_SpoofStrips.f (k : Nat) (a0 : ByteArray) : Option (Bool) := if (a0.size : Int) > 300 then ((dactyllaw44_awake.f k).bind fun t312 => (some t312)) else ((spoof_Strip.f k a0).bind fun t313 => ((spoof_Tell.f k a0).bind fun t314 => ((spoof_Fold.f k a0).bind fun t315 => (if t313.size + t314.size ≤ 9223372036854775807 then ((dactylref02_Decode.f k (t313 ++ t314)).bind fun t316 => (dactyllaw44_SpoofStrips.l0 k a0 t313 t314 t315 t316 0)) else (none)))))
theorem dactyllaw44_SpoofStrips.mono_l : ∀ k, (∀ y0 y1 y2 y3 y4 y5, LeO (dactyllaw44_SpoofStrips.l0 k y0 y1 y2 y3 y4 y5) (dactyllaw44_SpoofStrips.l0 (k + 1) y0 y1 y2 y3 y4 y5))
 | 0 => fun _ _ _ _ _ _ r h => by simp [dactyllaw44_SpoofStrips.l0] at h
 | k + 1 => by
  have ih0 := dactyllaw44_SpoofStrips.mono_l k
  ·intro y0 y1 y2 y3 y4 y5
   unfold dactyllaw44_SpoofStrips.l0
   repeat' first
   | (with_reducible exact ih0 _ _ _ _ _ _)
   | (with_reducible exact dactyllaw44_awake.mono _)
   | (with_reducible exact dactylref02_Decode.mono _ _)
   | (with_reducible exact dactylref03_Of.mono _ _)
   | (with_reducible exact dactylref44_Fold.mono _ _)
   | (with_reducible exact dactylref44_Strip.mono _ _)
   | (with_reducible exact dactylref44_Tell.mono _ _)
   | (with_reducible exact spoof_Fold.mono _ _)
   | (with_reducible exact spoof_Strip.mono _ _)
   | (with_reducible exact spoof_Tell.mono _ _)
   | (with_reducible exact LeO.refl _)
   | (with_reducible exact LeO.none _)
   | (with_reducible refine LeO.ite ?_ ?_)
   | (with_reducible refine LeO.bind ?_ (fun _ => ?_))
   | exact ih0 _ _ _ _ _ _
   | exact dactyllaw44_awake.mono _
   | exact dactylref02_Decode.mono _ _
   | exact dactylref03_Of.mono _ _
   | exact dactylref44_Fold.mono _ _
   | exact dactylref44_Strip.mono _ _
   | exact dactylref44_Tell.mono _ _
   | exact spoof_Fold.mono _ _
   | exact spoof_Strip.mono _ _
   | exact spoof_Tell.mono _ _
   | exact LeO.none _
   | refine LeO.ite ?_ ?_
   | refine LeO.bind ?_ (fun _ => ?_)
theorem dactyllaw44_SpoofStrips.mono : ∀ a0 k, LeO (dactyllaw44_SpoofStrips.f k a0) (dactyllaw44_SpoofStrips.f (k + 1) a0) := by
 intro a0 k
 have ih0 := dactyllaw44_SpoofStrips.mono_l k
 unfold dactyllaw44_SpoofStrips.f
 repeat' first
   | (with_reducible exact ih0 _ _ _ _ _ _)
   | (with_reducible exact dactyllaw44_awake.mono _)
   | (with_reducible exact dactylref02_Decode.mono _ _)
   | (with_reducible exact dactylref03_Of.mono _ _)
   | (with_reducible exact dactylref44_Fold.mono _ _)
   | (with_reducible exact dactylref44_Strip.mono _ _)
   | (with_reducible exact dactylref44_Tell.mono _ _)
   | (with_reducible exact spoof_Fold.mono _ _)
   | (with_reducible exact spoof_Strip.mono _ _)
   | (with_reducible exact spoof_Tell.mono _ _)
   | (with_reducible exact LeO.refl _)
   | (with_reducible exact LeO.none _)
   | (with_reducible refine LeO.ite ?_ ?_)
   | (with_reducible refine LeO.bind ?_ (fun _ => ?_))
   | exact ih0 _ _ _ _ _ _
   | exact dactyllaw44_awake.mono _
   | exact dactylref02_Decode.mono _ _
   | exact dactylref03_Of.mono _ _
   | exact dactylref44_Fold.mono _ _
   | exact dactylref44_Strip.mono _ _
   | exact dactylref44_Tell.mono _ _
   | exact spoof_Fold.mono _ _
   | exact spoof_Strip.mono _ _
   | exact spoof_Tell.mono _ _
   | exact LeO.none _
   | refine LeO.ite ?_ ?_
   | refine LeO.bind ?_ (fun _ => ?_)
set_option maxHeartbeats 8000000 in
set_option maxRecDepth 100000 in
theorem dactyllaw44_SpoofStrips.calls (k : Nat) (a0 : ByteArray) (r : Bool) (w : World) (h : dactyllaw44_SpoofStrips.f k a0 = some r) :
  Calls Try.prog 3 #[.string a0] w fun e w' => e = .returned (.bool r) ∧ Below w.heap.size w w' := by
 have HB := Aside0.mk (Below.refl w.heap.size w)
 have H : (if (a0.size : Int) > 300 then ((dactyllaw44_awake.f k).bind fun t312 => (some t312)) else ((spoof_Strip.f k a0).bind fun t313 => ((spoof_Tell.f k a0).bind fun t314 => ((spoof_Fold.f k a0).bind fun t315 => (if t313.size + t314.size ≤ 9223372036854775807 then ((dactylref02_Decode.f k (t313 ++ t314)).bind fun t316 => (dactyllaw44_SpoofStrips.l0 k a0 t313 t314 t315 t316 0)) else (none)))))) = some r := h
 clear h
 by_cases c2 : (a0.size : Int) > 300
 ·rw [if_pos c2] at H
  have c2b0 : decide (300 < (a0.size : Int)) = true := decide_eq_true c2
  have c2b1 : decide (300 < a0.size) = true := decide_eq_true (by omega)
  clear c2
  replace H := Option.bind_eq_some_iff.mp H
  obtain ⟨t312, A30, H⟩ := H
  replace H : (some t312) = some r := H
  have A3 := Aside0.mk A30
  clear A30
  obtain rfl := Option.some.inj H
  go_enter Try.func3, Try.ntmps3
  go_wp2_with (first | ((with_reducible refine gate_callee (f := 6) rfl ?_); refine goesL_ (some 11) rfl rfl Try.func6 (by kernel_rfl) rfl #[] rfl zl ?_; (with_reducible refine (dactyllaw44_awake.calls k  t312 _ A3.out).mono ?_); rintro e w4 ⟨rfl, hb⟩; refine ⟨_, rfl, ?_⟩; have n0_ := Aside0.mk (below_step zb hb); clear HB; have HB := n0_; clear n0_; (try clear hb); (try clear hb2); (try clear hk); (try clear hi)))
  go_ret
  exact ⟨zr, zb⟩
 ·rw [if_neg c2] at H
  have c2b0 : decide (300 < (a0.size : Int)) = false := decide_eq_false c2
  have c2b1 : decide (300 < a0.size) = false := decide_eq_false (by omega)
  clear c2
  replace H := Option.bind_eq_some_iff.mp H
  obtain ⟨t313, A50, H⟩ := H
  replace H : ((spoof_Tell.f k a0).bind fun t314 => ((spoof_Fold.f k a0).bind fun t315 => (if t313.size + t314.size ≤ 9223372036854775807 then ((dactylref02_Decode.f k (t313 ++ t314)).bind fun t316 => (dactyllaw44_SpoofStrips.l0 k a0 t313 t314 t315 t316 0)) else (none)))) = some r := H
  have A5 := Aside0.mk A50
  clear A50
  replace H := Option.bind_eq_some_iff.mp H
  obtain ⟨t314, A60, H⟩ := H
  replace H : ((spoof_Fold.f k a0).bind fun t315 => (if t313.size + t314.size ≤ 9223372036854775807 then ((dactylref02_Decode.f k (t313 ++ t314)).bind fun t316 => (dactyllaw44_SpoofStrips.l0 k a0 t313 t314 t315 t316 0)) else (none))) = some r := H
  have A6 := Aside0.mk A60
  clear A60
  replace H := Option.bind_eq_some_iff.mp H
  obtain ⟨t315, A70, H⟩ := H
  replace H : (if t313.size + t314.size ≤ 9223372036854775807 then ((dactylref02_Decode.f k (t313 ++ t314)).bind fun t316 => (dactyllaw44_SpoofStrips.l0 k a0 t313 t314 t315 t316 0)) else (none)) = some r := H
  have A7 := Aside0.mk A70
  clear A70
  by_cases c8 : t313.size + t314.size ≤ 9223372036854775807
  ·rw [if_pos c8] at H
   have c8b0 := eq_true c8
   have c8b1 : decide (t313.size + t314.size ≤ 9223372036854775807) = true := decide_eq_true c8
   try have c8b2 : (9223372036854775807 < t313.size + t314.size) = False := eq_false (Nat.not_lt.2 c8)
   replace H := Option.bind_eq_some_iff.mp H
   obtain ⟨t316, A90, H⟩ := H
   replace H : (dactyllaw44_SpoofStrips.l0 k a0 t313 t314 t315 t316 0) = some r := H
   have A9 := Aside0.mk A90
   clear A90
   have H' := Aside0.mk H
   clear H
   go_enter Try.func3, Try.ntmps3
   go_wp2_with (first | ((with_reducible refine gate_callee (f := 7) rfl ?_); refine goesL_ (some 13) rfl rfl Try.func7 (by kernel_rfl) rfl #[.string a0] rfl zl ?_; (with_reducible refine (spoof_Strip.calls k a0 t313 _ A5.out).mono ?_); rintro e w10 ⟨rfl, hb⟩; refine ⟨_, rfl, ?_⟩; have n0_ := Aside0.mk (below_step zb hb); clear HB; have HB := n0_; clear n0_; (try clear hb); (try clear hb2); (try clear hk); (try clear hi)) | ((with_reducible refine gate_callee (f := 8) rfl ?_); refine goesL_ (some 15) rfl rfl Try.func8 (by kernel_rfl) rfl #[.string a0] rfl zl ?_; (with_reducible refine (spoof_Tell.calls k a0 t314 _ A6.out).mono ?_); rintro e w11 ⟨rfl, hb⟩; refine ⟨_, rfl, ?_⟩; have n0_ := Aside0.mk (below_step zb hb); clear HB; have HB := n0_; clear n0_; (try clear hb); (try clear hb2); (try clear hk); (try clear hi)) | ((with_reducible refine gate_callee (f := 9) rfl ?_); refine goesL_ (some 17) rfl rfl Try.func9 (by kernel_rfl) rfl #[.string a0] rfl zl ?_; (with_reducible refine (spoof_Fold.calls k a0 t315 _ A7.out).mono ?_); rintro e w12 ⟨rfl, hb⟩; refine ⟨_, rfl, ?_⟩; have n0_ := Aside0.mk (below_step zb hb); clear HB; have HB := n0_; clear n0_; (try clear hb); (try clear hb2); (try clear hk); (try clear hi)) | ((with_reducible refine gate_callee (f := 10) rfl ?_); refine goesL_ (some 21) rfl rfl Try.func10 (by kernel_rfl) rfl #[.string (t313 ++ t314)] rfl zl ?_; (with_reducible refine (dactylref02_Decode.calls k (t313 ++ t314) t316 _ A9.out).mono ?_); rintro e w13 ⟨v317, rfl, ho0, hb⟩; refine ⟨_, rfl, ?_⟩; have n0_ := Aside0.mk (Kd.R_lower ho0 (below_size zb)); have n1_ := Aside0.mk (below_step zb hb); clear HB; have HO318 := n0_; have HB := n1_; clear n0_ n1_; (try clear hb); (try clear hb2); (try clear hk); (try clear hi); (try clear ho0)))
   go_loopg [7] k (fun kq v7 w' => ∃ (x7_1 : Int), v7 = .int .i64 x7_1 ∧ Aside0 (dactyllaw44_SpoofStrips.l0 kq a0 t313 t314 t315 t316 x7_1 = some r) ∧ Aside0 (kq ≤ k) ∧ Aside0 (Kd.R (Kd.int .i64) 3 w' w.heap.size (fun _ => True) v317 t316) ∧ Aside0 (Below w.heap.size w w'))
   case atStart => exact ⟨(0), (by first | rfl | (simp; done) | (simp [*]; done)), H', ⟨Nat.le_refl _⟩, ⟨by (with_reducible repeat (first | apply Kd.R_alloc | apply Kd.R_drewN | apply Kd.R_drew)); exact HO318.out⟩, ⟨by repeat (first | (with_reducible first | exact HB.out | apply below_alloc | apply pw_below_drewN | apply below_drew1) | exact HB.out)⟩⟩
   case round =>
    clear H'
    try clear c1
    try clear c2
    try clear c2b0
    try clear c2b1
    try clear p2
    try clear c3
    try clear c6
    try clear c7
    try clear c8
    try clear c8b0
    try clear c8b1
    try clear c8b2
    try clear c9
    try clear c10
    obtain ⟨x7_1, rfl, HA, HK1, HO_6, HB⟩ := hrel
    cases gk with
    | zero => exact absurd HA.out (by simp [dactyllaw44_SpoofStrips.l0])
    | succ k1 =>
     have H := HA.out
     clear HA
     simp only [dactyllaw44_SpoofStrips.l0] at H
     by_cases c14 : x7_1 < (t316.length : Int)
     ·rw [if_pos c14] at H
      have c14b0 : decide (x7_1 < (t316.length : Int)) = true := decide_eq_true c14
      clear c14
      by_cases c15 : 0 ≤ x7_1
      ·rw [if_pos c15] at H
       have c15b0 : decide (0 ≤ x7_1) = true := decide_eq_true c15
       clear c15
       replace H := Option.bind_eq_some_iff.mp H
       obtain ⟨t320, A160, H⟩ := H
       replace H : (if t320 > 3 then (some false) else (dactyllaw44_SpoofStrips.l0 k1 a0 t313 t314 t315 t316 (wrap64 (x7_1 + 1)))) = some r := H
       have A16 := Aside0.mk A160
       clear A160
       by_cases c17 : t320 > 3
       ·rw [if_pos c17] at H
        have c17b0 : decide (3 < t320) = true := decide_eq_true c17
        clear c17
        obtain rfl := Option.some.inj H
        obtain ⟨Ao18, co18, eo18⟩ := Kd.R_slice HO_6.out
        subst eo18
        have p319 : 0 ≤ (x7_1 : Int) := of_decide_eq_true za
        have q319 : x7_1 < (t316.length : Int) := of_decide_eq_true za
        obtain ⟨ad319, e319, hx319_0⟩ := Kd.at_int (Kd.R_reads' HO_6.out).2.2 x7_1 p319 q319
        cases e319
        replace p319 := eq_true p319
        replace q319 := eq_true q319
        go_wp2_with (first | ((with_reducible refine gate_callee (f := 11) rfl ?_); refine goesL_ (some 32) rfl rfl Try.func11 (by kernel_rfl) rfl #[.int .i64 (rd t316 x7_1)] rfl zl ?_; (with_reducible refine (dactylref03_Of.calls k1 (rd t316 x7_1) t320 _ A16.out).mono ?_); rintro e w19 ⟨rfl, hb⟩; refine ⟨_, rfl, ?_⟩; have n0_ := Aside0.mk (Kd.R_below (zk HO_6.out) hb); have n1_ := Aside0.mk (below_step zb hb); clear HO_6; clear HB; have HO_6 := n0_; have HB := n1_; clear n0_ n1_; (try clear hb); (try clear hb2); (try clear hk); (try clear hi)))
        go_ret
        exact ⟨zr, zb⟩
       ·rw [if_neg c17] at H
        have c17b0 : decide (3 < t320) = false := decide_eq_false c17
        clear c17
        have H' := Aside0.mk H
        clear H
        obtain ⟨Ao20, co20, eo20⟩ := Kd.R_slice HO_6.out
        subst eo20
        have p319 : 0 ≤ (x7_1 : Int) := of_decide_eq_true za
        have q319 : x7_1 < (t316.length : Int) := of_decide_eq_true za
        obtain ⟨ad319, e319, hx319_0⟩ := Kd.at_int (Kd.R_reads' HO_6.out).2.2 x7_1 p319 q319
        cases e319
        replace p319 := eq_true p319
        replace q319 := eq_true q319
        go_wp2_with (first | ((with_reducible refine gate_callee (f := 11) rfl ?_); refine goesL_ (some 32) rfl rfl Try.func11 (by kernel_rfl) rfl #[.int .i64 (rd t316 x7_1)] rfl zl ?_; (with_reducible refine (dactylref03_Of.calls k1 (rd t316 x7_1) t320 _ A16.out).mono ?_); rintro e w21 ⟨rfl, hb⟩; refine ⟨_, rfl, ?_⟩; have n0_ := Aside0.mk (Kd.R_below (zk HO_6.out) hb); have n1_ := Aside0.mk (below_step zb hb); clear HO_6; clear HB; have HO_6 := n0_; have HB := n1_; clear n0_ n1_; (try clear hb); (try clear hb2); (try clear hk); (try clear hi)))
        go_roundg k1
        case measure => have := HK1.out; omega
        case rel => exact ⟨(wrap64 (x7_1 + 1)), (by first | rfl | (simp; done) | (simp [*]; done)), H', ⟨by have := HK1.out; omega⟩, ⟨by (with_reducible repeat (first | apply Kd.R_alloc | apply Kd.R_drewN | apply Kd.R_drew)); exact HO_6.out⟩, ⟨by repeat (first | (with_reducible first | exact HB.out | apply below_alloc | apply pw_below_drewN | apply below_drew1) | exact HB.out)⟩⟩
      ·rw [if_neg c15] at H
       exact absurd H (by simp)
     ·rw [if_neg c14] at H
      have c14b0 : decide (x7_1 < (t316.length : Int)) = false := decide_eq_false c14
      clear c14
      replace H := Option.bind_eq_some_iff.mp H
      obtain ⟨t321, A220, H⟩ := H
      replace H : (if t321 = true then ((dactylref44_Strip.f k1 a0).bind fun t322 => (if t313.toList = t322.toList then ((dactylref44_Tell.f k1 a0).bind fun t323 => (if t314.toList = t323.toList then ((dactylref44_Fold.f k1 a0).bind fun t324 => (if t315.toList = t324.toList then ((spoof_Strip.f k1 t313).bind fun t325 => (if t325.toList = t313.toList then ((spoof_Strip.f k1 t314).bind fun t326 => (if t326.toList = t314.toList then ((spoof_Fold.f k1 t313).bind fun t327 => ((spoof_Fold.f k1 t313).bind fun t328 => ((spoof_Fold.f k1 t328).bind fun t329 => (if t327.toList = t329.toList then ((spoof_Fold.f k1 t315).bind fun t330 => (some (t330.toList == t315.toList))) else (some false))))) else (some false))) else (some false))) else (some false))) else (some false))) else (some false))) else (some false)) = some r := H
      have A22 := Aside0.mk A220
      clear A220
      by_cases c23 : t321 = true
      ·subst c23
       have H1 : ((dactylref44_Strip.f k1 a0).bind fun t322 => (if t313.toList = t322.toList then ((dactylref44_Tell.f k1 a0).bind fun t323 => (if t314.toList = t323.toList then ((dactylref44_Fold.f k1 a0).bind fun t324 => (if t315.toList = t324.toList then ((spoof_Strip.f k1 t313).bind fun t325 => (if t325.toList = t313.toList then ((spoof_Strip.f k1 t314).bind fun t326 => (if t326.toList = t314.toList then ((spoof_Fold.f k1 t313).bind fun t327 => ((spoof_Fold.f k1 t313).bind fun t328 => ((spoof_Fold.f k1 t328).bind fun t329 => (if t327.toList = t329.toList then ((spoof_Fold.f k1 t315).bind fun t330 => (some (t330.toList == t315.toList))) else (some false))))) else (some false))) else (some false))) else (some false))) else (some false))) else (some false))) = some r := by rw [if_pos rfl] at H; exact H
       clear H
       have H := H1
       clear H1
       replace H := Option.bind_eq_some_iff.mp H
       obtain ⟨t322, A240, H⟩ := H
       replace H : (if t313.toList = t322.toList then ((dactylref44_Tell.f k1 a0).bind fun t323 => (if t314.toList = t323.toList then ((dactylref44_Fold.f k1 a0).bind fun t324 => (if t315.toList = t324.toList then ((spoof_Strip.f k1 t313).bind fun t325 => (if t325.toList = t313.toList then ((spoof_Strip.f k1 t314).bind fun t326 => (if t326.toList = t314.toList then ((spoof_Fold.f k1 t313).bind fun t327 => ((spoof_Fold.f k1 t313).bind fun t328 => ((spoof_Fold.f k1 t328).bind fun t329 => (if t327.toList = t329.toList then ((spoof_Fold.f k1 t315).bind fun t330 => (some (t330.toList == t315.toList))) else (some false))))) else (some false))) else (some false))) else (some false))) else (some false))) else (some false)) = some r := H
       have A24 := Aside0.mk A240
       clear A240
       by_cases c25 : t313.toList = t322.toList
       ·rw [if_pos c25] at H
        have c25b0 : (t313.toList == t322.toList) = true := beq_iff_eq.mpr c25
        have c25b1 : (t313.toList != t322.toList) = false := bne_eq_false_iff_eq.mpr c25
        clear c25
        replace H := Option.bind_eq_some_iff.mp H
        obtain ⟨t323, A260, H⟩ := H
        replace H : (if t314.toList = t323.toList then ((dactylref44_Fold.f k1 a0).bind fun t324 => (if t315.toList = t324.toList then ((spoof_Strip.f k1 t313).bind fun t325 => (if t325.toList = t313.toList then ((spoof_Strip.f k1 t314).bind fun t326 => (if t326.toList = t314.toList then ((spoof_Fold.f k1 t313).bind fun t327 => ((spoof_Fold.f k1 t313).bind fun t328 => ((spoof_Fold.f k1 t328).bind fun t329 => (if t327.toList = t329.toList then ((spoof_Fold.f k1 t315).bind fun t330 => (some (t330.toList == t315.toList))) else (some false))))) else (some false))) else (some false))) else (some false))) else (some false)) = some r := H
        have A26 := Aside0.mk A260
        clear A260
        by_cases c27 : t314.toList = t323.toList
        ·rw [if_pos c27] at H
         have c27b0 : (t314.toList == t323.toList) = true := beq_iff_eq.mpr c27
         have c27b1 : (t314.toList != t323.toList) = false := bne_eq_false_iff_eq.mpr c27
         clear c27
         replace H := Option.bind_eq_some_iff.mp H
         obtain ⟨t324, A280, H⟩ := H
         replace H : (if t315.toList = t324.toList then ((spoof_Strip.f k1 t313).bind fun t325 => (if t325.toList = t313.toList then ((spoof_Strip.f k1 t314).bind fun t326 => (if t326.toList = t314.toList then ((spoof_Fold.f k1 t313).bind fun t327 => ((spoof_Fold.f k1 t313).bind fun t328 => ((spoof_Fold.f k1 t328).bind fun t329 => (if t327.toList = t329.toList then ((spoof_Fold.f k1 t315).bind fun t330 => (some (t330.toList == t315.toList))) else (some false))))) else (some false))) else (some false))) else (some false)) = some r := H
         have A28 := Aside0.mk A280
         clear A280
         by_cases c29 : t315.toList = t324.toList
         ·rw [if_pos c29] at H
          have c29b0 : (t315.toList == t324.toList) = true := beq_iff_eq.mpr c29
          have c29b1 : (t315.toList != t324.toList) = false := bne_eq_false_iff_eq.mpr c29
          clear c29
          replace H := Option.bind_eq_some_iff.mp H
          obtain ⟨t325, A300, H⟩ := H
          replace H : (if t325.toList = t313.toList then ((spoof_Strip.f k1 t314).bind fun t326 => (if t326.toList = t314.toList then ((spoof_Fold.f k1 t313).bind fun t327 => ((spoof_Fold.f k1 t313).bind fun t328 => ((spoof_Fold.f k1 t328).bind fun t329 => (if t327.toList = t329.toList then ((spoof_Fold.f k1 t315).bind fun t330 => (some (t330.toList == t315.toList))) else (some false))))) else (some false))) else (some false)) = some r := H
          have A30 := Aside0.mk A300
          clear A300
          by_cases c31 : t325.toList = t313.toList
          ·rw [if_pos c31] at H
           have c31b0 : (t325.toList == t313.toList) = true := beq_iff_eq.mpr c31
           have c31b1 : (t325.toList != t313.toList) = false := bne_eq_false_iff_eq.mpr c31
           clear c31
           replace H := Option.bind_eq_some_iff.mp H
           obtain ⟨t326, A320, H⟩ := H
           replace H : (if t326.toList = t314.toList then ((spoof_Fold.f k1 t313).bind fun t327 => ((spoof_Fold.f k1 t313).bind fun t328 => ((spoof_Fold.f k1 t328).bind fun t329 => (if t327.toList = t329.toList then ((spoof_Fold.f k1 t315).bind fun t330 => (some (t330.toList == t315.toList))) else (some false))))) else (some false)) = some r := H
           have A32 := Aside0.mk A320
           clear A320
           by_cases c33 : t326.toList = t314.toList
           ·rw [if_pos c33] at H
            have c33b0 : (t326.toList == t314.toList) = true := beq_iff_eq.mpr c33
            have c33b1 : (t326.toList != t314.toList) = false := bne_eq_false_iff_eq.mpr c33
            clear c33
            replace H := Option.bind_eq_some_iff.mp H
            obtain ⟨t327, A340, H⟩ := H
            replace H : ((spoof_Fold.f k1 t313).bind fun t328 => ((spoof_Fold.f k1 t328).bind fun t329 => (if t327.toList = t329.toList then ((spoof_Fold.f k1 t315).bind fun t330 => (some (t330.toList == t315.toList))) else (some false)))) = some r := H
            have A34 := Aside0.mk A340
            clear A340
            replace H := Option.bind_eq_some_iff.mp H
            obtain ⟨t328, A350, H⟩ := H
            replace H : ((spoof_Fold.f k1 t328).bind fun t329 => (if t327.toList = t329.toList then ((spoof_Fold.f k1 t315).bind fun t330 => (some (t330.toList == t315.toList))) else (some false))) = some r := H
            have A35 := Aside0.mk A350
            clear A350
            replace H := Option.bind_eq_some_iff.mp H
            obtain ⟨t329, A360, H⟩ := H
            replace H : (if t327.toList = t329.toList then ((spoof_Fold.f k1 t315).bind fun t330 => (some (t330.toList == t315.toList))) else (some false)) = some r := H
            have A36 := Aside0.mk A360
            have A36 : Aside0 (spoof_Fold.f k1 t327 = some t329) := ⟨by rw [show t327 = t328 from Option.some.inj (A34.out.symm.trans A35.out)]; exact A36.out⟩
            clear A360
            by_cases c37 : t327.toList = t329.toList
            ·rw [if_pos c37] at H
             have c37b0 : (t327.toList == t329.toList) = true := beq_iff_eq.mpr c37
             have c37b1 : (t327.toList != t329.toList) = false := bne_eq_false_iff_eq.mpr c37
             clear c37
             replace H := Option.bind_eq_some_iff.mp H
             obtain ⟨t330, A380, H⟩ := H
             replace H : (some (t330.toList == t315.toList)) = some r := H
             have A38 := Aside0.mk A380
             clear A380
             obtain rfl := Option.some.inj H
             obtain ⟨Ao39, co39, eo39⟩ := Kd.R_slice HO_6.out
             subst eo39
             go_wp2_with (first | ((with_reducible refine gate_callee (f := 6) rfl ?_); refine goesL_ (some 34) rfl rfl Try.func6 (by kernel_rfl) rfl #[] rfl zl ?_; (with_reducible refine (dactyllaw44_awake.calls k1  true _ A22.out).mono ?_); rintro e w40 ⟨rfl, hb⟩; refine ⟨_, rfl, ?_⟩; have n0_ := Aside0.mk (Kd.R_below (zk HO_6.out) hb); have n1_ := Aside0.mk (below_step zb hb); clear HO_6; clear HB; have HO_6 := n0_; have HB := n1_; clear n0_ n1_; (try clear hb); (try clear hb2); (try clear hk); (try clear hi)) | (go_at_call 12; (with_reducible refine (dactylref44_Strip.calls k1 a0 t322 _ A24.out).mono ?_); rintro e w41 ⟨rfl, hb⟩; have n0_ := Aside0.mk (Kd.R_below (zk HO_6.out) hb); have n1_ := Aside0.mk (below_step zb hb); clear HO_6; clear HB; have HO_6 := n0_; have HB := n1_; clear n0_ n1_; (try clear hb); (try clear hb2); (try clear hk); (try clear hi)) | (go_at_call 13; (with_reducible refine (dactylref44_Tell.calls k1 a0 t323 _ A26.out).mono ?_); rintro e w42 ⟨rfl, hb⟩; have n0_ := Aside0.mk (Kd.R_below (zk HO_6.out) hb); have n1_ := Aside0.mk (below_step zb hb); clear HO_6; clear HB; have HO_6 := n0_; have HB := n1_; clear n0_ n1_; (try clear hb); (try clear hb2); (try clear hk); (try clear hi)) | (go_at_call 14; (with_reducible refine (dactylref44_Fold.calls k1 a0 t324 _ A28.out).mono ?_); rintro e w43 ⟨rfl, hb⟩; have n0_ := Aside0.mk (Kd.R_below (zk HO_6.out) hb); have n1_ := Aside0.mk (below_step zb hb); clear HO_6; clear HB; have HO_6 := n0_; have HB := n1_; clear n0_ n1_; (try clear hb); (try clear hb2); (try clear hk); (try clear hi)) | (go_at_call 7; (with_reducible refine (spoof_Strip.calls k1 t313 t325 _ A30.out).mono ?_); rintro e w44 ⟨rfl, hb⟩; have n0_ := Aside0.mk (Kd.R_below (zk HO_6.out) hb); have n1_ := Aside0.mk (below_step zb hb); clear HO_6; clear HB; have HO_6 := n0_; have HB := n1_; clear n0_ n1_; (try clear hb); (try clear hb2); (try clear hk); (try clear hi)) | (go_at_call 7; (with_reducible refine (spoof_Strip.calls k1 t314 t326 _ A32.out).mono ?_); rintro e w45 ⟨rfl, hb⟩; have n0_ := Aside0.mk (Kd.R_below (zk HO_6.out) hb); have n1_ := Aside0.mk (below_step zb hb); clear HO_6; clear HB; have HO_6 := n0_; have HB := n1_; clear n0_ n1_; (try clear hb); (try clear hb2); (try clear hk); (try clear hi)) | (go_at_call 9; (with_reducible refine (spoof_Fold.calls k1 t313 t327 _ A34.out).mono ?_); rintro e w46 ⟨rfl, hb⟩; have n0_ := Aside0.mk (Kd.R_below (zk HO_6.out) hb); have n1_ := Aside0.mk (below_step zb hb); clear HO_6; clear HB; have HO_6 := n0_; have HB := n1_; clear n0_ n1_; (try clear hb); (try clear hb2); (try clear hk); (try clear hi)) | (go_at_call 9; (with_reducible refine (spoof_Fold.calls k1 t313 t328 _ A35.out).mono ?_); rintro e w47 ⟨rfl, hb⟩; have n0_ := Aside0.mk (Kd.R_below (zk HO_6.out) hb); have n1_ := Aside0.mk (below_step zb hb); clear HO_6; clear HB; have HO_6 := n0_; have HB := n1_; clear n0_ n1_; (try clear hb); (try clear hb2); (try clear hk); (try clear hi)) | (go_at_call 9; (with_reducible refine (spoof_Fold.calls k1 t327 t329 _ A36.out).mono ?_); rintro e w48 ⟨rfl, hb⟩; have n0_ := Aside0.mk (Kd.R_below (zk HO_6.out) hb); have n1_ := Aside0.mk (below_step zb hb); clear HO_6; clear HB; have HO_6 := n0_; have HB := n1_; clear n0_ n1_; (try clear hb); (try clear hb2); (try clear hk); (try clear hi)) | (go_at_call 9; (with_reducible refine (spoof_Fold.calls k1 t315 t330 _ A38.out).mono ?_); rintro e w49 ⟨rfl, hb⟩; have n0_ := Aside0.mk (Kd.R_below (zk HO_6.out) hb); have n1_ := Aside0.mk (below_step zb hb); clear HO_6; clear HB; have HO_6 := n0_; have HB := n1_; clear n0_ n1_; (try clear hb); (try clear hb2); (try clear hk); (try clear hi)))
             go_ret
             exact ⟨zr, zb⟩
            ·rw [if_neg c37] at H
             have c37b0 : (t327.toList == t329.toList) = false := beq_eq_false_iff_ne.mpr c37
             have c37b1 : (t327.toList != t329.toList) = true := bne_iff_ne.mpr c37
             obtain rfl := Option.some.inj H
             obtain ⟨Ao50, co50, eo50⟩ := Kd.R_slice HO_6.out
             subst eo50
             go_wp2_with (first | ((with_reducible refine gate_callee (f := 6) rfl ?_); refine goesL_ (some 34) rfl rfl Try.func6 (by kernel_rfl) rfl #[] rfl zl ?_; (with_reducible refine (dactyllaw44_awake.calls k1  true _ A22.out).mono ?_); rintro e w51 ⟨rfl, hb⟩; refine ⟨_, rfl, ?_⟩; have n0_ := Aside0.mk (Kd.R_below (zk HO_6.out) hb); have n1_ := Aside0.mk (below_step zb hb); clear HO_6; clear HB; have HO_6 := n0_; have HB := n1_; clear n0_ n1_; (try clear hb); (try clear hb2); (try clear hk); (try clear hi)) | (go_at_call 12; (with_reducible refine (dactylref44_Strip.calls k1 a0 t322 _ A24.out).mono ?_); rintro e w52 ⟨rfl, hb⟩; have n0_ := Aside0.mk (Kd.R_below (zk HO_6.out) hb); have n1_ := Aside0.mk (below_step zb hb); clear HO_6; clear HB; have HO_6 := n0_; have HB := n1_; clear n0_ n1_; (try clear hb); (try clear hb2); (try clear hk); (try clear hi)) | (go_at_call 13; (with_reducible refine (dactylref44_Tell.calls k1 a0 t323 _ A26.out).mono ?_); rintro e w53 ⟨rfl, hb⟩; have n0_ := Aside0.mk (Kd.R_below (zk HO_6.out) hb); have n1_ := Aside0.mk (below_step zb hb); clear HO_6; clear HB; have HO_6 := n0_; have HB := n1_; clear n0_ n1_; (try clear hb); (try clear hb2); (try clear hk); (try clear hi)) | (go_at_call 14; (with_reducible refine (dactylref44_Fold.calls k1 a0 t324 _ A28.out).mono ?_); rintro e w54 ⟨rfl, hb⟩; have n0_ := Aside0.mk (Kd.R_below (zk HO_6.out) hb); have n1_ := Aside0.mk (below_step zb hb); clear HO_6; clear HB; have HO_6 := n0_; have HB := n1_; clear n0_ n1_; (try clear hb); (try clear hb2); (try clear hk); (try clear hi)) | (go_at_call 7; (with_reducible refine (spoof_Strip.calls k1 t313 t325 _ A30.out).mono ?_); rintro e w55 ⟨rfl, hb⟩; have n0_ := Aside0.mk (Kd.R_below (zk HO_6.out) hb); have n1_ := Aside0.mk (below_step zb hb); clear HO_6; clear HB; have HO_6 := n0_; have HB := n1_; clear n0_ n1_; (try clear hb); (try clear hb2); (try clear hk); (try clear hi)) | (go_at_call 7; (with_reducible refine (spoof_Strip.calls k1 t314 t326 _ A32.out).mono ?_); rintro e w56 ⟨rfl, hb⟩; have n0_ := Aside0.mk (Kd.R_below (zk HO_6.out) hb); have n1_ := Aside0.mk (below_step zb hb); clear HO_6; clear HB; have HO_6 := n0_; have HB := n1_; clear n0_ n1_; (try clear hb); (try clear hb2); (try clear hk); (try clear hi)) | (go_at_call 9; (with_reducible refine (spoof_Fold.calls k1 t313 t327 _ A34.out).mono ?_); rintro e w57 ⟨rfl, hb⟩; have n0_ := Aside0.mk (Kd.R_below (zk HO_6.out) hb); have n1_ := Aside0.mk (below_step zb hb); clear HO_6; clear HB; have HO_6 := n0_; have HB := n1_; clear n0_ n1_; (try clear hb); (try clear hb2); (try clear hk); (try clear hi)) | (go_at_call 9; (with_reducible refine (spoof_Fold.calls k1 t313 t328 _ A35.out).mono ?_); rintro e w58 ⟨rfl, hb⟩; have n0_ := Aside0.mk (Kd.R_below (zk HO_6.out) hb); have n1_ := Aside0.mk (below_step zb hb); clear HO_6; clear HB; have HO_6 := n0_; have HB := n1_; clear n0_ n1_; (try clear hb); (try clear hb2); (try clear hk); (try clear hi)) | (go_at_call 9; (with_reducible refine (spoof_Fold.calls k1 t327 t329 _ A36.out).mono ?_); rintro e w59 ⟨rfl, hb⟩; have n0_ := Aside0.mk (Kd.R_below (zk HO_6.out) hb); have n1_ := Aside0.mk (below_step zb hb); clear HO_6; clear HB; have HO_6 := n0_; have HB := n1_; clear n0_ n1_; (try clear hb); (try clear hb2); (try clear hk); (try clear hi)))
             go_ret
             exact ⟨zr, zb⟩
           ·rw [if_neg c33] at H
            have c33b0 : (t326.toList == t314.toList) = false := beq_eq_false_iff_ne.mpr c33
            have c33b1 : (t326.toList != t314.toList) = true := bne_iff_ne.mpr c33
            obtain rfl := Option.some.inj H
            obtain ⟨Ao60, co60, eo60⟩ := Kd.R_slice HO_6.out
            subst eo60
            go_wp2_with (first | ((with_reducible refine gate_callee (f := 6) rfl ?_); refine goesL_ (some 34) rfl rfl Try.func6 (by kernel_rfl) rfl #[] rfl zl ?_; (with_reducible refine (dactyllaw44_awake.calls k1  true _ A22.out).mono ?_); rintro e w61 ⟨rfl, hb⟩; refine ⟨_, rfl, ?_⟩; have n0_ := Aside0.mk (Kd.R_below (zk HO_6.out) hb); have n1_ := Aside0.mk (below_step zb hb); clear HO_6; clear HB; have HO_6 := n0_; have HB := n1_; clear n0_ n1_; (try clear hb); (try clear hb2); (try clear hk); (try clear hi)) | (go_at_call 12; (with_reducible refine (dactylref44_Strip.calls k1 a0 t322 _ A24.out).mono ?_); rintro e w62 ⟨rfl, hb⟩; have n0_ := Aside0.mk (Kd.R_below (zk HO_6.out) hb); have n1_ := Aside0.mk (below_step zb hb); clear HO_6; clear HB; have HO_6 := n0_; have HB := n1_; clear n0_ n1_; (try clear hb); (try clear hb2); (try clear hk); (try clear hi)) | (go_at_call 13; (with_reducible refine (dactylref44_Tell.calls k1 a0 t323 _ A26.out).mono ?_); rintro e w63 ⟨rfl, hb⟩; have n0_ := Aside0.mk (Kd.R_below (zk HO_6.out) hb); have n1_ := Aside0.mk (below_step zb hb); clear HO_6; clear HB; have HO_6 := n0_; have HB := n1_; clear n0_ n1_; (try clear hb); (try clear hb2); (try clear hk); (try clear hi)) | (go_at_call 14; (with_reducible refine (dactylref44_Fold.calls k1 a0 t324 _ A28.out).mono ?_); rintro e w64 ⟨rfl, hb⟩; have n0_ := Aside0.mk (Kd.R_below (zk HO_6.out) hb); have n1_ := Aside0.mk (below_step zb hb); clear HO_6; clear HB; have HO_6 := n0_; have HB := n1_; clear n0_ n1_; (try clear hb); (try clear hb2); (try clear hk); (try clear hi)) | (go_at_call 7; (with_reducible refine (spoof_Strip.calls k1 t313 t325 _ A30.out).mono ?_); rintro e w65 ⟨rfl, hb⟩; have n0_ := Aside0.mk (Kd.R_below (zk HO_6.out) hb); have n1_ := Aside0.mk (below_step zb hb); clear HO_6; clear HB; have HO_6 := n0_; have HB := n1_; clear n0_ n1_; (try clear hb); (try clear hb2); (try clear hk); (try clear hi)) | (go_at_call 7; (with_reducible refine (spoof_Strip.calls k1 t314 t326 _ A32.out).mono ?_); rintro e w66 ⟨rfl, hb⟩; have n0_ := Aside0.mk (Kd.R_below (zk HO_6.out) hb); have n1_ := Aside0.mk (below_step zb hb); clear HO_6; clear HB; have HO_6 := n0_; have HB := n1_; clear n0_ n1_; (try clear hb); (try clear hb2); (try clear hk); (try clear hi)))
            go_ret
            exact ⟨zr, zb⟩
          ·rw [if_neg c31] at H
           have c31b0 : (t325.toList == t313.toList) = false := beq_eq_false_iff_ne.mpr c31
           have c31b1 : (t325.toList != t313.toList) = true := bne_iff_ne.mpr c31
           obtain rfl := Option.some.inj H
           obtain ⟨Ao67, co67, eo67⟩ := Kd.R_slice HO_6.out
           subst eo67
           go_wp2_with (first | ((with_reducible refine gate_callee (f := 6) rfl ?_); refine goesL_ (some 34) rfl rfl Try.func6 (by kernel_rfl) rfl #[] rfl zl ?_; (with_reducible refine (dactyllaw44_awake.calls k1  true _ A22.out).mono ?_); rintro e w68 ⟨rfl, hb⟩; refine ⟨_, rfl, ?_⟩; have n0_ := Aside0.mk (Kd.R_below (zk HO_6.out) hb); have n1_ := Aside0.mk (below_step zb hb); clear HO_6; clear HB; have HO_6 := n0_; have HB := n1_; clear n0_ n1_; (try clear hb); (try clear hb2); (try clear hk); (try clear hi)) | (go_at_call 12; (with_reducible refine (dactylref44_Strip.calls k1 a0 t322 _ A24.out).mono ?_); rintro e w69 ⟨rfl, hb⟩; have n0_ := Aside0.mk (Kd.R_below (zk HO_6.out) hb); have n1_ := Aside0.mk (below_step zb hb); clear HO_6; clear HB; have HO_6 := n0_; have HB := n1_; clear n0_ n1_; (try clear hb); (try clear hb2); (try clear hk); (try clear hi)) | (go_at_call 13; (with_reducible refine (dactylref44_Tell.calls k1 a0 t323 _ A26.out).mono ?_); rintro e w70 ⟨rfl, hb⟩; have n0_ := Aside0.mk (Kd.R_below (zk HO_6.out) hb); have n1_ := Aside0.mk (below_step zb hb); clear HO_6; clear HB; have HO_6 := n0_; have HB := n1_; clear n0_ n1_; (try clear hb); (try clear hb2); (try clear hk); (try clear hi)) | (go_at_call 14; (with_reducible refine (dactylref44_Fold.calls k1 a0 t324 _ A28.out).mono ?_); rintro e w71 ⟨rfl, hb⟩; have n0_ := Aside0.mk (Kd.R_below (zk HO_6.out) hb); have n1_ := Aside0.mk (below_step zb hb); clear HO_6; clear HB; have HO_6 := n0_; have HB := n1_; clear n0_ n1_; (try clear hb); (try clear hb2); (try clear hk); (try clear hi)) | (go_at_call 7; (with_reducible refine (spoof_Strip.calls k1 t313 t325 _ A30.out).mono ?_); rintro e w72 ⟨rfl, hb⟩; have n0_ := Aside0.mk (Kd.R_below (zk HO_6.out) hb); have n1_ := Aside0.mk (below_step zb hb); clear HO_6; clear HB; have HO_6 := n0_; have HB := n1_; clear n0_ n1_; (try clear hb); (try clear hb2); (try clear hk); (try clear hi)))
           go_ret
           exact ⟨zr, zb⟩
         ·rw [if_neg c29] at H
          have c29b0 : (t315.toList == t324.toList) = false := beq_eq_false_iff_ne.mpr c29
          have c29b1 : (t315.toList != t324.toList) = true := bne_iff_ne.mpr c29
          obtain rfl := Option.some.inj H
          obtain ⟨Ao73, co73, eo73⟩ := Kd.R_slice HO_6.out
          subst eo73
          go_wp2_with (first | ((with_reducible refine gate_callee (f := 6) rfl ?_); refine goesL_ (some 34) rfl rfl Try.func6 (by kernel_rfl) rfl #[] rfl zl ?_; (with_reducible refine (dactyllaw44_awake.calls k1  true _ A22.out).mono ?_); rintro e w74 ⟨rfl, hb⟩; refine ⟨_, rfl, ?_⟩; have n0_ := Aside0.mk (Kd.R_below (zk HO_6.out) hb); have n1_ := Aside0.mk (below_step zb hb); clear HO_6; clear HB; have HO_6 := n0_; have HB := n1_; clear n0_ n1_; (try clear hb); (try clear hb2); (try clear hk); (try clear hi)) | (go_at_call 12; (with_reducible refine (dactylref44_Strip.calls k1 a0 t322 _ A24.out).mono ?_); rintro e w75 ⟨rfl, hb⟩; have n0_ := Aside0.mk (Kd.R_below (zk HO_6.out) hb); have n1_ := Aside0.mk (below_step zb hb); clear HO_6; clear HB; have HO_6 := n0_; have HB := n1_; clear n0_ n1_; (try clear hb); (try clear hb2); (try clear hk); (try clear hi)) | (go_at_call 13; (with_reducible refine (dactylref44_Tell.calls k1 a0 t323 _ A26.out).mono ?_); rintro e w76 ⟨rfl, hb⟩; have n0_ := Aside0.mk (Kd.R_below (zk HO_6.out) hb); have n1_ := Aside0.mk (below_step zb hb); clear HO_6; clear HB; have HO_6 := n0_; have HB := n1_; clear n0_ n1_; (try clear hb); (try clear hb2); (try clear hk); (try clear hi)) | (go_at_call 14; (with_reducible refine (dactylref44_Fold.calls k1 a0 t324 _ A28.out).mono ?_); rintro e w77 ⟨rfl, hb⟩; have n0_ := Aside0.mk (Kd.R_below (zk HO_6.out) hb); have n1_ := Aside0.mk (below_step zb hb); clear HO_6; clear HB; have HO_6 := n0_; have HB := n1_; clear n0_ n1_; (try clear hb); (try clear hb2); (try clear hk); (try clear hi)))
          go_ret
          exact ⟨zr, zb⟩
        ·rw [if_neg c27] at H
         have c27b0 : (t314.toList == t323.toList) = false := beq_eq_false_iff_ne.mpr c27
         have c27b1 : (t314.toList != t323.toList) = true := bne_iff_ne.mpr c27
         obtain rfl := Option.some.inj H
         obtain ⟨Ao78, co78, eo78⟩ := Kd.R_slice HO_6.out
         subst eo78
         go_wp2_with (first | ((with_reducible refine gate_callee (f := 6) rfl ?_); refine goesL_ (some 34) rfl rfl Try.func6 (by kernel_rfl) rfl #[] rfl zl ?_; (with_reducible refine (dactyllaw44_awake.calls k1  true _ A22.out).mono ?_); rintro e w79 ⟨rfl, hb⟩; refine ⟨_, rfl, ?_⟩; have n0_ := Aside0.mk (Kd.R_below (zk HO_6.out) hb); have n1_ := Aside0.mk (below_step zb hb); clear HO_6; clear HB; have HO_6 := n0_; have HB := n1_; clear n0_ n1_; (try clear hb); (try clear hb2); (try clear hk); (try clear hi)) | (go_at_call 12; (with_reducible refine (dactylref44_Strip.calls k1 a0 t322 _ A24.out).mono ?_); rintro e w80 ⟨rfl, hb⟩; have n0_ := Aside0.mk (Kd.R_below (zk HO_6.out) hb); have n1_ := Aside0.mk (below_step zb hb); clear HO_6; clear HB; have HO_6 := n0_; have HB := n1_; clear n0_ n1_; (try clear hb); (try clear hb2); (try clear hk); (try clear hi)) | (go_at_call 13; (with_reducible refine (dactylref44_Tell.calls k1 a0 t323 _ A26.out).mono ?_); rintro e w81 ⟨rfl, hb⟩; have n0_ := Aside0.mk (Kd.R_below (zk HO_6.out) hb); have n1_ := Aside0.mk (below_step zb hb); clear HO_6; clear HB; have HO_6 := n0_; have HB := n1_; clear n0_ n1_; (try clear hb); (try clear hb2); (try clear hk); (try clear hi)))
         go_ret
         exact ⟨zr, zb⟩
       ·rw [if_neg c25] at H
        have c25b0 : (t313.toList == t322.toList) = false := beq_eq_false_iff_ne.mpr c25
        have c25b1 : (t313.toList != t322.toList) = true := bne_iff_ne.mpr c25
        obtain rfl := Option.some.inj H
        obtain ⟨Ao82, co82, eo82⟩ := Kd.R_slice HO_6.out
        subst eo82
        go_wp2_with (first | ((with_reducible refine gate_callee (f := 6) rfl ?_); refine goesL_ (some 34) rfl rfl Try.func6 (by kernel_rfl) rfl #[] rfl zl ?_; (with_reducible refine (dactyllaw44_awake.calls k1  true _ A22.out).mono ?_); rintro e w83 ⟨rfl, hb⟩; refine ⟨_, rfl, ?_⟩; have n0_ := Aside0.mk (Kd.R_below (zk HO_6.out) hb); have n1_ := Aside0.mk (below_step zb hb); clear HO_6; clear HB; have HO_6 := n0_; have HB := n1_; clear n0_ n1_; (try clear hb); (try clear hb2); (try clear hk); (try clear hi)) | (go_at_call 12; (with_reducible refine (dactylref44_Strip.calls k1 a0 t322 _ A24.out).mono ?_); rintro e w84 ⟨rfl, hb⟩; have n0_ := Aside0.mk (Kd.R_below (zk HO_6.out) hb); have n1_ := Aside0.mk (below_step zb hb); clear HO_6; clear HB; have HO_6 := n0_; have HB := n1_; clear n0_ n1_; (try clear hb); (try clear hb2); (try clear hk); (try clear hi)))
        go_ret
        exact ⟨zr, zb⟩
      ·replace c23 := Bool.eq_false_iff.mpr c23
       subst c23
       have H1 : (some false) = some r := by rw [if_neg (show ¬ (false = true) by decide)] at H; exact H
       clear H
       have H := H1
       clear H1
       obtain rfl := Option.some.inj H
       obtain ⟨Ao85, co85, eo85⟩ := Kd.R_slice HO_6.out
       subst eo85
       go_wp2_with (first | ((with_reducible refine gate_callee (f := 6) rfl ?_); refine goesL_ (some 34) rfl rfl Try.func6 (by kernel_rfl) rfl #[] rfl zl ?_; (with_reducible refine (dactyllaw44_awake.calls k1  false _ A22.out).mono ?_); rintro e w86 ⟨rfl, hb⟩; refine ⟨_, rfl, ?_⟩; have n0_ := Aside0.mk (Kd.R_below (zk HO_6.out) hb); have n1_ := Aside0.mk (below_step zb hb); clear HO_6; clear HB; have HO_6 := n0_; have HB := n1_; clear n0_ n1_; (try clear hb); (try clear hb2); (try clear hk); (try clear hi)))
       go_ret
       exact ⟨zr, zb⟩
  ·rw [if_neg c8] at H
   exact absurd H (by simp)

/-- THE ONE PURE STATEMENT of dactyllaw44_SpoofStrips: yours. -/
def dactyllaw44_SpoofStrips.Pure : Prop := ∀ (a0 : ByteArray), a0.size ≤ 140737488351232 → ∃ k, dactyllaw44_SpoofStrips.f k a0 = some true
theorem dactyllaw44_SpoofStrips.walk (P : dactyllaw44_SpoofStrips.Pure) (a0 : ByteArray) (w : World) (w0 : a0.size ≤ 140737488351232) :
  Calls Try.prog 3 #[.string a0] w fun e w' => e = .returned (.bool true) ∧ Below w.heap.size w w' := by
 obtain ⟨k, h⟩ := P a0 w0
 refine (dactyllaw44_SpoofStrips.calls k a0 true w h).mono ?_
 rintro e w' ⟨rfl, hd⟩
 exact ⟨rfl, hd⟩

/-! ### dactyllaw44_SpoofAlike: function 4 -/
def dactyllaw44_SpoofAlike.j0 : Nat → ByteArray → ByteArray → ByteArray → Bool → Option (Bool)
 | 0, _, _, _, _ => none
 | k + 1, x0, x1, x2, x22 => if x22 = true then ((dactyllaw44_awake.f k).bind fun t331 => (some t331)) else ((spoof_Alike.f k x0 x1).bind fun t332 => ((spoof_Alike.f k x1 x2).bind fun t333 => ((spoof_Alike.f k x0 x2).bind fun t334 => ((dactyllaw44_awake.f k).bind fun t335 => (if t335 = true then ((dactylref44_Strip.f k x0).bind fun t336 => ((dactylref44_Fold.f k t336).bind fun t337 => ((dactylref44_Strip.f k x1).bind fun t338 => ((dactylref44_Fold.f k t338).bind fun t339 => (if (t332 == (t337.toList == t339.toList)) = true then ((spoof_Alike.f k x0 x0).bind fun t340 => (if t340 = true then ((spoof_Alike.f k x1 x0).bind fun t341 => (if (t332 == t341) = true then (if t332 = true then (if t333 = true then (some t334) else (some true)) else (some true)) else (some false))) else (some false))) else (some false)))))) else (some false))))))
def dactyllaw44_SpoofAlike.f (k : Nat) (a0 : ByteArray) (a1 : ByteArray) (a2 : ByteArray) : Option (Bool) := if (a0.size : Int) > 200 then (dactyllaw44_SpoofAlike.j0 k a0 a1 a2 true) else (if (a1.size : Int) > 200 then (dactyllaw44_SpoofAlike.j0 k a0 a1 a2 true) else (dactyllaw44_SpoofAlike.j0 k a0 a1 a2 (decide ((a2.size : Int) > 200))))
theorem dactyllaw44_SpoofAlike.mono_l : ∀ k, (∀ y0 y1 y2 y3, LeO (dactyllaw44_SpoofAlike.j0 k y0 y1 y2 y3) (dactyllaw44_SpoofAlike.j0 (k + 1) y0 y1 y2 y3))
 | 0 => fun _ _ _ _ r h => by simp [dactyllaw44_SpoofAlike.j0] at h
 | k + 1 => by
  have ih0 := dactyllaw44_SpoofAlike.mono_l k
  ·intro y0 y1 y2 y3
   unfold dactyllaw44_SpoofAlike.j0
   repeat' first
   | (with_reducible exact ih0 _ _ _ _)
   | (with_reducible exact dactyllaw44_awake.mono _)
   | (with_reducible exact dactylref44_Fold.mono _ _)
   | (with_reducible exact dactylref44_Strip.mono _ _)
   | (with_reducible exact spoof_Alike.mono _ _ _)
   | (with_reducible exact LeO.refl _)
   | (with_reducible exact LeO.none _)
   | (with_reducible refine LeO.ite ?_ ?_)
   | (with_reducible refine LeO.bind ?_ (fun _ => ?_))
   | exact ih0 _ _ _ _
   | exact dactyllaw44_awake.mono _
   | exact dactylref44_Fold.mono _ _
   | exact dactylref44_Strip.mono _ _
   | exact spoof_Alike.mono _ _ _
   | exact LeO.none _
   | refine LeO.ite ?_ ?_
   | refine LeO.bind ?_ (fun _ => ?_)
theorem dactyllaw44_SpoofAlike.mono : ∀ a0 a1 a2 k, LeO (dactyllaw44_SpoofAlike.f k a0 a1 a2) (dactyllaw44_SpoofAlike.f (k + 1) a0 a1 a2) := by
 intro a0 a1 a2 k
 have ih0 := dactyllaw44_SpoofAlike.mono_l k
 unfold dactyllaw44_SpoofAlike.f
 repeat' first
   | (with_reducible exact ih0 _ _ _ _)
   | (with_reducible exact dactyllaw44_awake.mono _)
   | (with_reducible exact dactylref44_Fold.mono _ _)
   | (with_reducible exact dactylref44_Strip.mono _ _)
   | (with_reducible exact spoof_Alike.mono _ _ _)
   | (with_reducible exact LeO.refl _)
   | (with_reducible exact LeO.none _)
   | (with_reducible refine LeO.ite ?_ ?_)
   | (with_reducible refine LeO.bind ?_ (fun _ => ?_))
   | exact ih0 _ _ _ _
   | exact dactyllaw44_awake.mono _
   | exact dactylref44_Fold.mono _ _
   | exact dactylref44_Strip.mono _ _
   | exact spoof_Alike.mono _ _ _
   | exact LeO.none _
   | refine LeO.ite ?_ ?_
   | refine LeO.bind ?_ (fun _ => ?_)
set_option maxHeartbeats 8000000 in
set_option maxRecDepth 100000 in
theorem dactyllaw44_SpoofAlike.calls (k : Nat) (a0 : ByteArray) (a1 : ByteArray) (a2 : ByteArray) (r : Bool) (w : World) (h : dactyllaw44_SpoofAlike.f k a0 a1 a2 = some r) :
  Calls Try.prog 4 #[.string a0, .string a1, .string a2] w fun e w' => e = .returned (.bool r) ∧ Below w.heap.size w w' := by
 have HB := Aside0.mk (Below.refl w.heap.size w)
 have H : (if (a0.size : Int) > 200 then (dactyllaw44_SpoofAlike.j0 k a0 a1 a2 true) else (if (a1.size : Int) > 200 then (dactyllaw44_SpoofAlike.j0 k a0 a1 a2 true) else (dactyllaw44_SpoofAlike.j0 k a0 a1 a2 (decide ((a2.size : Int) > 200))))) = some r := h
 clear h
 have HC4 := Aside0.mk H
 clear H
 go_enter Try.func4, Try.ntmps4
 go_upto_region 1 with (fail)
 go_cut [22] (fun v22 wc => ∃ (kq : Nat) (x22_3 : Bool), v22 = .bool x22_3 ∧ Aside0 (dactyllaw44_SpoofAlike.j0 kq a0 a1 a2 x22_3 = some r) ∧ Aside0 (kq ≤ k) ∧ Aside0 (Below w.heap.size w wc))
 case first =>
  have H := HC4.out
  clear HC4
  by_cases c5 : (a0.size : Int) > 200
  ·rw [if_pos c5] at H
   have c5b0 : decide (200 < (a0.size : Int)) = true := decide_eq_true c5
   have c5b1 : decide (200 < a0.size) = true := decide_eq_true (by omega)
   clear c5
   (first | rw [c5b0] | (simp only [i64_w, i32_w]; rw [c5b0]) | skip)
   have H' := Aside0.mk H
   clear H
   go_wp2
   go_meet
   case rel => exact ⟨_, (true), (by first | rfl | (simp; done) | (simp [*]; done)), H', ⟨by first | omega | exact Nat.le_refl _⟩, ⟨by repeat (first | (with_reducible first | exact HB.out | apply below_alloc | apply pw_below_drewN | apply below_drew1) | exact HB.out)⟩⟩
  ·rw [if_neg c5] at H
   have c5b0 : decide (200 < (a0.size : Int)) = false := decide_eq_false c5
   have c5b1 : decide (200 < a0.size) = false := decide_eq_false (by omega)
   clear c5
   (first | rw [c5b0] | (simp only [i64_w, i32_w]; rw [c5b0]) | skip)
   by_cases c6 : (a1.size : Int) > 200
   ·rw [if_pos c6] at H
    have c6b0 : decide (200 < (a1.size : Int)) = true := decide_eq_true c6
    have c6b1 : decide (200 < a1.size) = true := decide_eq_true (by omega)
    clear c6
    have H' := Aside0.mk H
    clear H
    go_wp2
    go_meet
    case rel => exact ⟨_, (true), (by first | rfl | (simp; done) | (simp [*]; done)), H', ⟨by first | omega | exact Nat.le_refl _⟩, ⟨by repeat (first | (with_reducible first | exact HB.out | apply below_alloc | apply pw_below_drewN | apply below_drew1) | exact HB.out)⟩⟩
   ·rw [if_neg c6] at H
    have c6b0 : decide (200 < (a1.size : Int)) = false := decide_eq_false c6
    have c6b1 : decide (200 < a1.size) = false := decide_eq_false (by omega)
    clear c6
    have H' := Aside0.mk H
    clear H
    go_wp2
    go_meet
    case rel => exact ⟨_, (decide ((a2.size : Int) > 200)), (by first | rfl | (simp; done) | (simp [*]; done)), H', ⟨by first | omega | exact Nat.le_refl _⟩, ⟨by repeat (first | (with_reducible first | exact HB.out | apply below_alloc | apply pw_below_drewN | apply below_drew1) | exact HB.out)⟩⟩
 case rest =>
  clear HC4
  try clear p2
  try clear c4
  try clear c5
  try clear c5b0
  try clear c5b1
  try clear c6
  try clear c6b0
  try clear c6b1
  obtain ⟨kq, x22_3, rfl, HA, HJ3, HB⟩ := hcut
  cases kq with
  | zero => exact absurd HA.out (by simp [dactyllaw44_SpoofAlike.j0])
  | succ kj3 =>
   have H := HA.out
   clear HA
   simp only [dactyllaw44_SpoofAlike.j0] at H
   by_cases c7 : x22_3 = true
   ·subst c7
    have H1 : ((dactyllaw44_awake.f kj3).bind fun t331 => (some t331)) = some r := by rw [if_pos rfl] at H; exact H
    clear H
    have H := H1
    clear H1
    replace H := Option.bind_eq_some_iff.mp H
    obtain ⟨t331, A80, H⟩ := H
    replace H : (some t331) = some r := H
    have A8 := Aside0.mk A80
    clear A80
    obtain rfl := Option.some.inj H
    go_wp2_with (first | ((with_reducible refine gate_callee (f := 6) rfl ?_); refine goesL_ (some 23) rfl rfl Try.func6 (by kernel_rfl) rfl #[] rfl zl ?_; (with_reducible refine (dactyllaw44_awake.calls kj3  t331 _ A8.out).mono ?_); rintro e w9 ⟨rfl, hb⟩; refine ⟨_, rfl, ?_⟩; have n0_ := Aside0.mk (below_step zb hb); clear HB; have HB := n0_; clear n0_; (try clear hb); (try clear hb2); (try clear hk); (try clear hi)))
    go_ret
    exact ⟨zr, zb⟩
   ·replace c7 := Bool.eq_false_iff.mpr c7
    subst c7
    have H1 : ((spoof_Alike.f kj3 a0 a1).bind fun t332 => ((spoof_Alike.f kj3 a1 a2).bind fun t333 => ((spoof_Alike.f kj3 a0 a2).bind fun t334 => ((dactyllaw44_awake.f kj3).bind fun t335 => (if t335 = true then ((dactylref44_Strip.f kj3 a0).bind fun t336 => ((dactylref44_Fold.f kj3 t336).bind fun t337 => ((dactylref44_Strip.f kj3 a1).bind fun t338 => ((dactylref44_Fold.f kj3 t338).bind fun t339 => (if (t332 == (t337.toList == t339.toList)) = true then ((spoof_Alike.f kj3 a0 a0).bind fun t340 => (if t340 = true then ((spoof_Alike.f kj3 a1 a0).bind fun t341 => (if (t332 == t341) = true then (if t332 = true then (if t333 = true then (some t334) else (some true)) else (some true)) else (some false))) else (some false))) else (some false)))))) else (some false)))))) = some r := by rw [if_neg (show ¬ (false = true) by decide)] at H; exact H
    clear H
    have H := H1
    clear H1
    replace H := Option.bind_eq_some_iff.mp H
    obtain ⟨t332, A100, H⟩ := H
    replace H : ((spoof_Alike.f kj3 a1 a2).bind fun t333 => ((spoof_Alike.f kj3 a0 a2).bind fun t334 => ((dactyllaw44_awake.f kj3).bind fun t335 => (if t335 = true then ((dactylref44_Strip.f kj3 a0).bind fun t336 => ((dactylref44_Fold.f kj3 t336).bind fun t337 => ((dactylref44_Strip.f kj3 a1).bind fun t338 => ((dactylref44_Fold.f kj3 t338).bind fun t339 => (if (t332 == (t337.toList == t339.toList)) = true then ((spoof_Alike.f kj3 a0 a0).bind fun t340 => (if t340 = true then ((spoof_Alike.f kj3 a1 a0).bind fun t341 => (if (t332 == t341) = true then (if t332 = true then (if t333 = true then (some t334) else (some true)) else (some true)) else (some false))) else (some false))) else (some false)))))) else (some false))))) = some r := H
    have A10 := Aside0.mk A100
    clear A100
    replace H := Option.bind_eq_some_iff.mp H
    obtain ⟨t333, A110, H⟩ := H
    replace H : ((spoof_Alike.f kj3 a0 a2).bind fun t334 => ((dactyllaw44_awake.f kj3).bind fun t335 => (if t335 = true then ((dactylref44_Strip.f kj3 a0).bind fun t336 => ((dactylref44_Fold.f kj3 t336).bind fun t337 => ((dactylref44_Strip.f kj3 a1).bind fun t338 => ((dactylref44_Fold.f kj3 t338).bind fun t339 => (if (t332 == (t337.toList == t339.toList)) = true then ((spoof_Alike.f kj3 a0 a0).bind fun t340 => (if t340 = true then ((spoof_Alike.f kj3 a1 a0).bind fun t341 => (if (t332 == t341) = true then (if t332 = true then (if t333 = true then (some t334) else (some true)) else (some true)) else (some false))) else (some false))) else (some false)))))) else (some false)))) = some r := H
    have A11 := Aside0.mk A110
    clear A110
    replace H := Option.bind_eq_some_iff.mp H
    obtain ⟨t334, A120, H⟩ := H
    replace H : ((dactyllaw44_awake.f kj3).bind fun t335 => (if t335 = true then ((dactylref44_Strip.f kj3 a0).bind fun t336 => ((dactylref44_Fold.f kj3 t336).bind fun t337 => ((dactylref44_Strip.f kj3 a1).bind fun t338 => ((dactylref44_Fold.f kj3 t338).bind fun t339 => (if (t332 == (t337.toList == t339.toList)) = true then ((spoof_Alike.f kj3 a0 a0).bind fun t340 => (if t340 = true then ((spoof_Alike.f kj3 a1 a0).bind fun t341 => (if (t332 == t341) = true then (if t332 = true then (if t333 = true then (some t334) else (some true)) else (some true)) else (some false))) else (some false))) else (some false)))))) else (some false))) = some r := H
    have A12 := Aside0.mk A120
    clear A120
    replace H := Option.bind_eq_some_iff.mp H
    obtain ⟨t335, A130, H⟩ := H
    replace H : (if t335 = true then ((dactylref44_Strip.f kj3 a0).bind fun t336 => ((dactylref44_Fold.f kj3 t336).bind fun t337 => ((dactylref44_Strip.f kj3 a1).bind fun t338 => ((dactylref44_Fold.f kj3 t338).bind fun t339 => (if (t332 == (t337.toList == t339.toList)) = true then ((spoof_Alike.f kj3 a0 a0).bind fun t340 => (if t340 = true then ((spoof_Alike.f kj3 a1 a0).bind fun t341 => (if (t332 == t341) = true then (if t332 = true then (if t333 = true then (some t334) else (some true)) else (some true)) else (some false))) else (some false))) else (some false)))))) else (some false)) = some r := H
    have A13 := Aside0.mk A130
    clear A130
    by_cases c14 : t335 = true
    ·subst c14
     have H1 : ((dactylref44_Strip.f kj3 a0).bind fun t336 => ((dactylref44_Fold.f kj3 t336).bind fun t337 => ((dactylref44_Strip.f kj3 a1).bind fun t338 => ((dactylref44_Fold.f kj3 t338).bind fun t339 => (if (t332 == (t337.toList == t339.toList)) = true then ((spoof_Alike.f kj3 a0 a0).bind fun t340 => (if t340 = true then ((spoof_Alike.f kj3 a1 a0).bind fun t341 => (if (t332 == t341) = true then (if t332 = true then (if t333 = true then (some t334) else (some true)) else (some true)) else (some false))) else (some false))) else (some false)))))) = some r := by rw [if_pos rfl] at H; exact H
     clear H
     have H := H1
     clear H1
     replace H := Option.bind_eq_some_iff.mp H
     obtain ⟨t336, A150, H⟩ := H
     replace H : ((dactylref44_Fold.f kj3 t336).bind fun t337 => ((dactylref44_Strip.f kj3 a1).bind fun t338 => ((dactylref44_Fold.f kj3 t338).bind fun t339 => (if (t332 == (t337.toList == t339.toList)) = true then ((spoof_Alike.f kj3 a0 a0).bind fun t340 => (if t340 = true then ((spoof_Alike.f kj3 a1 a0).bind fun t341 => (if (t332 == t341) = true then (if t332 = true then (if t333 = true then (some t334) else (some true)) else (some true)) else (some false))) else (some false))) else (some false))))) = some r := H
     have A15 := Aside0.mk A150
     clear A150
     replace H := Option.bind_eq_some_iff.mp H
     obtain ⟨t337, A160, H⟩ := H
     replace H : ((dactylref44_Strip.f kj3 a1).bind fun t338 => ((dactylref44_Fold.f kj3 t338).bind fun t339 => (if (t332 == (t337.toList == t339.toList)) = true then ((spoof_Alike.f kj3 a0 a0).bind fun t340 => (if t340 = true then ((spoof_Alike.f kj3 a1 a0).bind fun t341 => (if (t332 == t341) = true then (if t332 = true then (if t333 = true then (some t334) else (some true)) else (some true)) else (some false))) else (some false))) else (some false)))) = some r := H
     have A16 := Aside0.mk A160
     clear A160
     replace H := Option.bind_eq_some_iff.mp H
     obtain ⟨t338, A170, H⟩ := H
     replace H : ((dactylref44_Fold.f kj3 t338).bind fun t339 => (if (t332 == (t337.toList == t339.toList)) = true then ((spoof_Alike.f kj3 a0 a0).bind fun t340 => (if t340 = true then ((spoof_Alike.f kj3 a1 a0).bind fun t341 => (if (t332 == t341) = true then (if t332 = true then (if t333 = true then (some t334) else (some true)) else (some true)) else (some false))) else (some false))) else (some false))) = some r := H
     have A17 := Aside0.mk A170
     clear A170
     replace H := Option.bind_eq_some_iff.mp H
     obtain ⟨t339, A180, H⟩ := H
     replace H : (if (t332 == (t337.toList == t339.toList)) = true then ((spoof_Alike.f kj3 a0 a0).bind fun t340 => (if t340 = true then ((spoof_Alike.f kj3 a1 a0).bind fun t341 => (if (t332 == t341) = true then (if t332 = true then (if t333 = true then (some t334) else (some true)) else (some true)) else (some false))) else (some false))) else (some false)) = some r := H
     have A18 := Aside0.mk A180
     clear A180
     by_cases c19 : (t332 == (t337.toList == t339.toList)) = true
     ·rw [if_pos c19] at H
      have c19b0 : (t332 == (t337.toList == t339.toList)) = true := c19
      (try (have c19b1 : decide (t332 = (t337.toList == t339.toList)) = true := by simpa using c19))
      (try (have c19b2 : (t332 == (t337.toList == t339.toList)) = true := by simpa using c19))
      clear c19
      replace H := Option.bind_eq_some_iff.mp H
      obtain ⟨t340, A200, H⟩ := H
      replace H : (if t340 = true then ((spoof_Alike.f kj3 a1 a0).bind fun t341 => (if (t332 == t341) = true then (if t332 = true then (if t333 = true then (some t334) else (some true)) else (some true)) else (some false))) else (some false)) = some r := H
      have A20 := Aside0.mk A200
      clear A200
      by_cases c21 : t340 = true
      ·subst c21
       have H1 : ((spoof_Alike.f kj3 a1 a0).bind fun t341 => (if (t332 == t341) = true then (if t332 = true then (if t333 = true then (some t334) else (some true)) else (some true)) else (some false))) = some r := by rw [if_pos rfl] at H; exact H
       clear H
       have H := H1
       clear H1
       replace H := Option.bind_eq_some_iff.mp H
       obtain ⟨t341, A220, H⟩ := H
       replace H : (if (t332 == t341) = true then (if t332 = true then (if t333 = true then (some t334) else (some true)) else (some true)) else (some false)) = some r := H
       have A22 := Aside0.mk A220
       clear A220
       by_cases c23 : (t332 == t341) = true
       ·rw [if_pos c23] at H
        have c23b0 : (t332 == t341) = true := c23
        (try (have c23b1 : decide (t332 = t341) = true := by simpa using c23))
        (try (have c23b2 : (t332 == t341) = true := by simpa using c23))
        clear c23
        by_cases c24 : t332 = true
        ·subst c24
         have H1 : (if t333 = true then (some t334) else (some true)) = some r := by rw [if_pos rfl] at H; exact H
         clear H
         have H := H1
         clear H1
         by_cases c25 : t333 = true
         ·subst c25
          have H1 : (some t334) = some r := by rw [if_pos rfl] at H; exact H
          clear H
          have H := H1
          clear H1
          obtain rfl := Option.some.inj H
          go_wp2_with (first | ((with_reducible refine gate_callee (f := 15) rfl ?_); refine goesL_ (some 26) rfl rfl Try.func15 (by kernel_rfl) rfl #[.string a0, .string a1] rfl zl ?_; (with_reducible refine (spoof_Alike.calls kj3 a0 a1 true _ A10.out).mono ?_); rintro e w26 ⟨rfl, hb⟩; refine ⟨_, rfl, ?_⟩; have n0_ := Aside0.mk (below_step zb hb); clear HB; have HB := n0_; clear n0_; (try clear hb); (try clear hb2); (try clear hk); (try clear hi)) | ((with_reducible refine gate_callee (f := 15) rfl ?_); refine goesL_ (some 29) rfl rfl Try.func15 (by kernel_rfl) rfl #[.string a1, .string a2] rfl zl ?_; (with_reducible refine (spoof_Alike.calls kj3 a1 a2 true _ A11.out).mono ?_); rintro e w27 ⟨rfl, hb⟩; refine ⟨_, rfl, ?_⟩; have n0_ := Aside0.mk (below_step zb hb); clear HB; have HB := n0_; clear n0_; (try clear hb); (try clear hb2); (try clear hk); (try clear hi)) | ((with_reducible refine gate_callee (f := 15) rfl ?_); refine goesL_ (some 32) rfl rfl Try.func15 (by kernel_rfl) rfl #[.string a0, .string a2] rfl zl ?_; (with_reducible refine (spoof_Alike.calls kj3 a0 a2 t334 _ A12.out).mono ?_); rintro e w28 ⟨rfl, hb⟩; refine ⟨_, rfl, ?_⟩; have n0_ := Aside0.mk (below_step zb hb); clear HB; have HB := n0_; clear n0_; (try clear hb); (try clear hb2); (try clear hk); (try clear hi)) | ((with_reducible refine gate_callee (f := 6) rfl ?_); refine goesL_ (some 33) rfl rfl Try.func6 (by kernel_rfl) rfl #[] rfl zl ?_; (with_reducible refine (dactyllaw44_awake.calls kj3  true _ A13.out).mono ?_); rintro e w29 ⟨rfl, hb⟩; refine ⟨_, rfl, ?_⟩; have n0_ := Aside0.mk (below_step zb hb); clear HB; have HB := n0_; clear n0_; (try clear hb); (try clear hb2); (try clear hk); (try clear hi)) | (go_at_call 12; (with_reducible refine (dactylref44_Strip.calls kj3 a0 t336 _ A15.out).mono ?_); rintro e w30 ⟨rfl, hb⟩; have n0_ := Aside0.mk (below_step zb hb); clear HB; have HB := n0_; clear n0_; (try clear hb); (try clear hb2); (try clear hk); (try clear hi)) | (go_at_call 14; (with_reducible refine (dactylref44_Fold.calls kj3 t336 t337 _ A16.out).mono ?_); rintro e w31 ⟨rfl, hb⟩; have n0_ := Aside0.mk (below_step zb hb); clear HB; have HB := n0_; clear n0_; (try clear hb); (try clear hb2); (try clear hk); (try clear hi)) | (go_at_call 12; (with_reducible refine (dactylref44_Strip.calls kj3 a1 t338 _ A17.out).mono ?_); rintro e w32 ⟨rfl, hb⟩; have n0_ := Aside0.mk (below_step zb hb); clear HB; have HB := n0_; clear n0_; (try clear hb); (try clear hb2); (try clear hk); (try clear hi)) | (go_at_call 14; (with_reducible refine (dactylref44_Fold.calls kj3 t338 t339 _ A18.out).mono ?_); rintro e w33 ⟨rfl, hb⟩; have n0_ := Aside0.mk (below_step zb hb); clear HB; have HB := n0_; clear n0_; (try clear hb); (try clear hb2); (try clear hk); (try clear hi)) | (go_at_call 15; (with_reducible refine (spoof_Alike.calls kj3 a0 a0 true _ A20.out).mono ?_); rintro e w34 ⟨rfl, hb⟩; have n0_ := Aside0.mk (below_step zb hb); clear HB; have HB := n0_; clear n0_; (try clear hb); (try clear hb2); (try clear hk); (try clear hi)) | (go_at_call 15; (with_reducible refine (spoof_Alike.calls kj3 a1 a0 t341 _ A22.out).mono ?_); rintro e w35 ⟨rfl, hb⟩; have n0_ := Aside0.mk (below_step zb hb); clear HB; have HB := n0_; clear n0_; (try clear hb); (try clear hb2); (try clear hk); (try clear hi)))
          go_ret
          exact ⟨zr, zb⟩
         ·replace c25 := Bool.eq_false_iff.mpr c25
          subst c25
          have H1 : (some true) = some r := by rw [if_neg (show ¬ (false = true) by decide)] at H; exact H
          clear H
          have H := H1
          clear H1
          obtain rfl := Option.some.inj H
          go_wp2_with (first | ((with_reducible refine gate_callee (f := 15) rfl ?_); refine goesL_ (some 26) rfl rfl Try.func15 (by kernel_rfl) rfl #[.string a0, .string a1] rfl zl ?_; (with_reducible refine (spoof_Alike.calls kj3 a0 a1 true _ A10.out).mono ?_); rintro e w36 ⟨rfl, hb⟩; refine ⟨_, rfl, ?_⟩; have n0_ := Aside0.mk (below_step zb hb); clear HB; have HB := n0_; clear n0_; (try clear hb); (try clear hb2); (try clear hk); (try clear hi)) | ((with_reducible refine gate_callee (f := 15) rfl ?_); refine goesL_ (some 29) rfl rfl Try.func15 (by kernel_rfl) rfl #[.string a1, .string a2] rfl zl ?_; (with_reducible refine (spoof_Alike.calls kj3 a1 a2 false _ A11.out).mono ?_); rintro e w37 ⟨rfl, hb⟩; refine ⟨_, rfl, ?_⟩; have n0_ := Aside0.mk (below_step zb hb); clear HB; have HB := n0_; clear n0_; (try clear hb); (try clear hb2); (try clear hk); (try clear hi)) | ((with_reducible refine gate_callee (f := 15) rfl ?_); refine goesL_ (some 32) rfl rfl Try.func15 (by kernel_rfl) rfl #[.string a0, .string a2] rfl zl ?_; (with_reducible refine (spoof_Alike.calls kj3 a0 a2 t334 _ A12.out).mono ?_); rintro e w38 ⟨rfl, hb⟩; refine ⟨_, rfl, ?_⟩; have n0_ := Aside0.mk (below_step zb hb); clear HB; have HB := n0_; clear n0_; (try clear hb); (try clear hb2); (try clear hk); (try clear hi)) | ((with_reducible refine gate_callee (f := 6) rfl ?_); refine goesL_ (some 33) rfl rfl Try.func6 (by kernel_rfl) rfl #[] rfl zl ?_; (with_reducible refine (dactyllaw44_awake.calls kj3  true _ A13.out).mono ?_); rintro e w39 ⟨rfl, hb⟩; refine ⟨_, rfl, ?_⟩; have n0_ := Aside0.mk (below_step zb hb); clear HB; have HB := n0_; clear n0_; (try clear hb); (try clear hb2); (try clear hk); (try clear hi)) | (go_at_call 12; (with_reducible refine (dactylref44_Strip.calls kj3 a0 t336 _ A15.out).mono ?_); rintro e w40 ⟨rfl, hb⟩; have n0_ := Aside0.mk (below_step zb hb); clear HB; have HB := n0_; clear n0_; (try clear hb); (try clear hb2); (try clear hk); (try clear hi)) | (go_at_call 14; (with_reducible refine (dactylref44_Fold.calls kj3 t336 t337 _ A16.out).mono ?_); rintro e w41 ⟨rfl, hb⟩; have n0_ := Aside0.mk (below_step zb hb); clear HB; have HB := n0_; clear n0_; (try clear hb); (try clear hb2); (try clear hk); (try clear hi)) | (go_at_call 12; (with_reducible refine (dactylref44_Strip.calls kj3 a1 t338 _ A17.out).mono ?_); rintro e w42 ⟨rfl, hb⟩; have n0_ := Aside0.mk (below_step zb hb); clear HB; have HB := n0_; clear n0_; (try clear hb); (try clear hb2); (try clear hk); (try clear hi)) | (go_at_call 14; (with_reducible refine (dactylref44_Fold.calls kj3 t338 t339 _ A18.out).mono ?_); rintro e w43 ⟨rfl, hb⟩; have n0_ := Aside0.mk (below_step zb hb); clear HB; have HB := n0_; clear n0_; (try clear hb); (try clear hb2); (try clear hk); (try clear hi)) | (go_at_call 15; (with_reducible refine (spoof_Alike.calls kj3 a0 a0 true _ A20.out).mono ?_); rintro e w44 ⟨rfl, hb⟩; have n0_ := Aside0.mk (below_step zb hb); clear HB; have HB := n0_; clear n0_; (try clear hb); (try clear hb2); (try clear hk); (try clear hi)) | (go_at_call 15; (with_reducible refine (spoof_Alike.calls kj3 a1 a0 t341 _ A22.out).mono ?_); rintro e w45 ⟨rfl, hb⟩; have n0_ := Aside0.mk (below_step zb hb); clear HB; have HB := n0_; clear n0_; (try clear hb); (try clear hb2); (try clear hk); (try clear hi)))
          go_ret
          exact ⟨zr, zb⟩
        ·replace c24 := Bool.eq_false_iff.mpr c24
         subst c24
         have H1 : (some true) = some r := by rw [if_neg (show ¬ (false = true) by decide)] at H; exact H
         clear H
         have H := H1
         clear H1
         obtain rfl := Option.some.inj H
         go_wp2_with (first | ((with_reducible refine gate_callee (f := 15) rfl ?_); refine goesL_ (some 26) rfl rfl Try.func15 (by kernel_rfl) rfl #[.string a0, .string a1] rfl zl ?_; (with_reducible refine (spoof_Alike.calls kj3 a0 a1 false _ A10.out).mono ?_); rintro e w46 ⟨rfl, hb⟩; refine ⟨_, rfl, ?_⟩; have n0_ := Aside0.mk (below_step zb hb); clear HB; have HB := n0_; clear n0_; (try clear hb); (try clear hb2); (try clear hk); (try clear hi)) | ((with_reducible refine gate_callee (f := 15) rfl ?_); refine goesL_ (some 29) rfl rfl Try.func15 (by kernel_rfl) rfl #[.string a1, .string a2] rfl zl ?_; (with_reducible refine (spoof_Alike.calls kj3 a1 a2 t333 _ A11.out).mono ?_); rintro e w47 ⟨rfl, hb⟩; refine ⟨_, rfl, ?_⟩; have n0_ := Aside0.mk (below_step zb hb); clear HB; have HB := n0_; clear n0_; (try clear hb); (try clear hb2); (try clear hk); (try clear hi)) | ((with_reducible refine gate_callee (f := 15) rfl ?_); refine goesL_ (some 32) rfl rfl Try.func15 (by kernel_rfl) rfl #[.string a0, .string a2] rfl zl ?_; (with_reducible refine (spoof_Alike.calls kj3 a0 a2 t334 _ A12.out).mono ?_); rintro e w48 ⟨rfl, hb⟩; refine ⟨_, rfl, ?_⟩; have n0_ := Aside0.mk (below_step zb hb); clear HB; have HB := n0_; clear n0_; (try clear hb); (try clear hb2); (try clear hk); (try clear hi)) | ((with_reducible refine gate_callee (f := 6) rfl ?_); refine goesL_ (some 33) rfl rfl Try.func6 (by kernel_rfl) rfl #[] rfl zl ?_; (with_reducible refine (dactyllaw44_awake.calls kj3  true _ A13.out).mono ?_); rintro e w49 ⟨rfl, hb⟩; refine ⟨_, rfl, ?_⟩; have n0_ := Aside0.mk (below_step zb hb); clear HB; have HB := n0_; clear n0_; (try clear hb); (try clear hb2); (try clear hk); (try clear hi)) | (go_at_call 12; (with_reducible refine (dactylref44_Strip.calls kj3 a0 t336 _ A15.out).mono ?_); rintro e w50 ⟨rfl, hb⟩; have n0_ := Aside0.mk (below_step zb hb); clear HB; have HB := n0_; clear n0_; (try clear hb); (try clear hb2); (try clear hk); (try clear hi)) | (go_at_call 14; (with_reducible refine (dactylref44_Fold.calls kj3 t336 t337 _ A16.out).mono ?_); rintro e w51 ⟨rfl, hb⟩; have n0_ := Aside0.mk (below_step zb hb); clear HB; have HB := n0_; clear n0_; (try clear hb); (try clear hb2); (try clear hk); (try clear hi)) | (go_at_call 12; (with_reducible refine (dactylref44_Strip.calls kj3 a1 t338 _ A17.out).mono ?_); rintro e w52 ⟨rfl, hb⟩; have n0_ := Aside0.mk (below_step zb hb); clear HB; have HB := n0_; clear n0_; (try clear hb); (try clear hb2); (try clear hk); (try clear hi)) | (go_at_call 14; (with_reducible refine (dactylref44_Fold.calls kj3 t338 t339 _ A18.out).mono ?_); rintro e w53 ⟨rfl, hb⟩; have n0_ := Aside0.mk (below_step zb hb); clear HB; have HB := n0_; clear n0_; (try clear hb); (try clear hb2); (try clear hk); (try clear hi)) | (go_at_call 15; (with_reducible refine (spoof_Alike.calls kj3 a0 a0 true _ A20.out).mono ?_); rintro e w54 ⟨rfl, hb⟩; have n0_ := Aside0.mk (below_step zb hb); clear HB; have HB := n0_; clear n0_; (try clear hb); (try clear hb2); (try clear hk); (try clear hi)) | (go_at_call 15; (with_reducible refine (spoof_Alike.calls kj3 a1 a0 t341 _ A22.out).mono ?_); rintro e w55 ⟨rfl, hb⟩; have n0_ := Aside0.mk (below_step zb hb); clear HB; have HB := n0_; clear n0_; (try clear hb); (try clear hb2); (try clear hk); (try clear hi)))
         go_ret
         exact ⟨zr, zb⟩
       ·rw [if_neg c23] at H
        have c23b0 : (t332 == t341) = false := by simpa using c23
        (try (have c23b1 : decide (t332 = t341) = false := by simpa using c23))
        (try (have c23b2 : (t332 == t341) = false := by simpa using c23))
        (try (have c23b3 : ¬ (t332 = t341) := by simpa using c23))
        clear c23
        obtain rfl := Option.some.inj H
        go_wp2_with (first | ((with_reducible refine gate_callee (f := 15) rfl ?_); refine goesL_ (some 26) rfl rfl Try.func15 (by kernel_rfl) rfl #[.string a0, .string a1] rfl zl ?_; (with_reducible refine (spoof_Alike.calls kj3 a0 a1 t332 _ A10.out).mono ?_); rintro e w56 ⟨rfl, hb⟩; refine ⟨_, rfl, ?_⟩; have n0_ := Aside0.mk (below_step zb hb); clear HB; have HB := n0_; clear n0_; (try clear hb); (try clear hb2); (try clear hk); (try clear hi)) | ((with_reducible refine gate_callee (f := 15) rfl ?_); refine goesL_ (some 29) rfl rfl Try.func15 (by kernel_rfl) rfl #[.string a1, .string a2] rfl zl ?_; (with_reducible refine (spoof_Alike.calls kj3 a1 a2 t333 _ A11.out).mono ?_); rintro e w57 ⟨rfl, hb⟩; refine ⟨_, rfl, ?_⟩; have n0_ := Aside0.mk (below_step zb hb); clear HB; have HB := n0_; clear n0_; (try clear hb); (try clear hb2); (try clear hk); (try clear hi)) | ((with_reducible refine gate_callee (f := 15) rfl ?_); refine goesL_ (some 32) rfl rfl Try.func15 (by kernel_rfl) rfl #[.string a0, .string a2] rfl zl ?_; (with_reducible refine (spoof_Alike.calls kj3 a0 a2 t334 _ A12.out).mono ?_); rintro e w58 ⟨rfl, hb⟩; refine ⟨_, rfl, ?_⟩; have n0_ := Aside0.mk (below_step zb hb); clear HB; have HB := n0_; clear n0_; (try clear hb); (try clear hb2); (try clear hk); (try clear hi)) | ((with_reducible refine gate_callee (f := 6) rfl ?_); refine goesL_ (some 33) rfl rfl Try.func6 (by kernel_rfl) rfl #[] rfl zl ?_; (with_reducible refine (dactyllaw44_awake.calls kj3  true _ A13.out).mono ?_); rintro e w59 ⟨rfl, hb⟩; refine ⟨_, rfl, ?_⟩; have n0_ := Aside0.mk (below_step zb hb); clear HB; have HB := n0_; clear n0_; (try clear hb); (try clear hb2); (try clear hk); (try clear hi)) | (go_at_call 12; (with_reducible refine (dactylref44_Strip.calls kj3 a0 t336 _ A15.out).mono ?_); rintro e w60 ⟨rfl, hb⟩; have n0_ := Aside0.mk (below_step zb hb); clear HB; have HB := n0_; clear n0_; (try clear hb); (try clear hb2); (try clear hk); (try clear hi)) | (go_at_call 14; (with_reducible refine (dactylref44_Fold.calls kj3 t336 t337 _ A16.out).mono ?_); rintro e w61 ⟨rfl, hb⟩; have n0_ := Aside0.mk (below_step zb hb); clear HB; have HB := n0_; clear n0_; (try clear hb); (try clear hb2); (try clear hk); (try clear hi)) | (go_at_call 12; (with_reducible refine (dactylref44_Strip.calls kj3 a1 t338 _ A17.out).mono ?_); rintro e w62 ⟨rfl, hb⟩; have n0_ := Aside0.mk (below_step zb hb); clear HB; have HB := n0_; clear n0_; (try clear hb); (try clear hb2); (try clear hk); (try clear hi)) | (go_at_call 14; (with_reducible refine (dactylref44_Fold.calls kj3 t338 t339 _ A18.out).mono ?_); rintro e w63 ⟨rfl, hb⟩; have n0_ := Aside0.mk (below_step zb hb); clear HB; have HB := n0_; clear n0_; (try clear hb); (try clear hb2); (try clear hk); (try clear hi)) | (go_at_call 15; (with_reducible refine (spoof_Alike.calls kj3 a0 a0 true _ A20.out).mono ?_); rintro e w64 ⟨rfl, hb⟩; have n0_ := Aside0.mk (below_step zb hb); clear HB; have HB := n0_; clear n0_; (try clear hb); (try clear hb2); (try clear hk); (try clear hi)) | (go_at_call 15; (with_reducible refine (spoof_Alike.calls kj3 a1 a0 t341 _ A22.out).mono ?_); rintro e w65 ⟨rfl, hb⟩; have n0_ := Aside0.mk (below_step zb hb); clear HB; have HB := n0_; clear n0_; (try clear hb); (try clear hb2); (try clear hk); (try clear hi)))
        go_ret
        exact ⟨zr, zb⟩
      ·replace c21 := Bool.eq_false_iff.mpr c21
       subst c21
       have H1 : (some false) = some r := by rw [if_neg (show ¬ (false = true) by decide)] at H; exact H
       clear H
       have H := H1
       clear H1
       obtain rfl := Option.some.inj H
       go_wp2_with (first | ((with_reducible refine gate_callee (f := 15) rfl ?_); refine goesL_ (some 26) rfl rfl Try.func15 (by kernel_rfl) rfl #[.string a0, .string a1] rfl zl ?_; (with_reducible refine (spoof_Alike.calls kj3 a0 a1 t332 _ A10.out).mono ?_); rintro e w66 ⟨rfl, hb⟩; refine ⟨_, rfl, ?_⟩; have n0_ := Aside0.mk (below_step zb hb); clear HB; have HB := n0_; clear n0_; (try clear hb); (try clear hb2); (try clear hk); (try clear hi)) | ((with_reducible refine gate_callee (f := 15) rfl ?_); refine goesL_ (some 29) rfl rfl Try.func15 (by kernel_rfl) rfl #[.string a1, .string a2] rfl zl ?_; (with_reducible refine (spoof_Alike.calls kj3 a1 a2 t333 _ A11.out).mono ?_); rintro e w67 ⟨rfl, hb⟩; refine ⟨_, rfl, ?_⟩; have n0_ := Aside0.mk (below_step zb hb); clear HB; have HB := n0_; clear n0_; (try clear hb); (try clear hb2); (try clear hk); (try clear hi)) | ((with_reducible refine gate_callee (f := 15) rfl ?_); refine goesL_ (some 32) rfl rfl Try.func15 (by kernel_rfl) rfl #[.string a0, .string a2] rfl zl ?_; (with_reducible refine (spoof_Alike.calls kj3 a0 a2 t334 _ A12.out).mono ?_); rintro e w68 ⟨rfl, hb⟩; refine ⟨_, rfl, ?_⟩; have n0_ := Aside0.mk (below_step zb hb); clear HB; have HB := n0_; clear n0_; (try clear hb); (try clear hb2); (try clear hk); (try clear hi)) | ((with_reducible refine gate_callee (f := 6) rfl ?_); refine goesL_ (some 33) rfl rfl Try.func6 (by kernel_rfl) rfl #[] rfl zl ?_; (with_reducible refine (dactyllaw44_awake.calls kj3  true _ A13.out).mono ?_); rintro e w69 ⟨rfl, hb⟩; refine ⟨_, rfl, ?_⟩; have n0_ := Aside0.mk (below_step zb hb); clear HB; have HB := n0_; clear n0_; (try clear hb); (try clear hb2); (try clear hk); (try clear hi)) | (go_at_call 12; (with_reducible refine (dactylref44_Strip.calls kj3 a0 t336 _ A15.out).mono ?_); rintro e w70 ⟨rfl, hb⟩; have n0_ := Aside0.mk (below_step zb hb); clear HB; have HB := n0_; clear n0_; (try clear hb); (try clear hb2); (try clear hk); (try clear hi)) | (go_at_call 14; (with_reducible refine (dactylref44_Fold.calls kj3 t336 t337 _ A16.out).mono ?_); rintro e w71 ⟨rfl, hb⟩; have n0_ := Aside0.mk (below_step zb hb); clear HB; have HB := n0_; clear n0_; (try clear hb); (try clear hb2); (try clear hk); (try clear hi)) | (go_at_call 12; (with_reducible refine (dactylref44_Strip.calls kj3 a1 t338 _ A17.out).mono ?_); rintro e w72 ⟨rfl, hb⟩; have n0_ := Aside0.mk (below_step zb hb); clear HB; have HB := n0_; clear n0_; (try clear hb); (try clear hb2); (try clear hk); (try clear hi)) | (go_at_call 14; (with_reducible refine (dactylref44_Fold.calls kj3 t338 t339 _ A18.out).mono ?_); rintro e w73 ⟨rfl, hb⟩; have n0_ := Aside0.mk (below_step zb hb); clear HB; have HB := n0_; clear n0_; (try clear hb); (try clear hb2); (try clear hk); (try clear hi)) | (go_at_call 15; (with_reducible refine (spoof_Alike.calls kj3 a0 a0 false _ A20.out).mono ?_); rintro e w74 ⟨rfl, hb⟩; have n0_ := Aside0.mk (below_step zb hb); clear HB; have HB := n0_; clear n0_; (try clear hb); (try clear hb2); (try clear hk); (try clear hi)))
       go_ret
       exact ⟨zr, zb⟩
     ·rw [if_neg c19] at H
      have c19b0 : (t332 == (t337.toList == t339.toList)) = false := by simpa using c19
      (try (have c19b1 : decide (t332 = (t337.toList == t339.toList)) = false := by simpa using c19))
      (try (have c19b2 : (t332 == (t337.toList == t339.toList)) = false := by simpa using c19))
      (try (have c19b3 : ¬ (t332 = (t337.toList == t339.toList)) := by simpa using c19))
      clear c19
      obtain rfl := Option.some.inj H
      go_wp2_with (first | ((with_reducible refine gate_callee (f := 15) rfl ?_); refine goesL_ (some 26) rfl rfl Try.func15 (by kernel_rfl) rfl #[.string a0, .string a1] rfl zl ?_; (with_reducible refine (spoof_Alike.calls kj3 a0 a1 t332 _ A10.out).mono ?_); rintro e w75 ⟨rfl, hb⟩; refine ⟨_, rfl, ?_⟩; have n0_ := Aside0.mk (below_step zb hb); clear HB; have HB := n0_; clear n0_; (try clear hb); (try clear hb2); (try clear hk); (try clear hi)) | ((with_reducible refine gate_callee (f := 15) rfl ?_); refine goesL_ (some 29) rfl rfl Try.func15 (by kernel_rfl) rfl #[.string a1, .string a2] rfl zl ?_; (with_reducible refine (spoof_Alike.calls kj3 a1 a2 t333 _ A11.out).mono ?_); rintro e w76 ⟨rfl, hb⟩; refine ⟨_, rfl, ?_⟩; have n0_ := Aside0.mk (below_step zb hb); clear HB; have HB := n0_; clear n0_; (try clear hb); (try clear hb2); (try clear hk); (try clear hi)) | ((with_reducible refine gate_callee (f := 15) rfl ?_); refine goesL_ (some 32) rfl rfl Try.func15 (by kernel_rfl) rfl #[.string a0, .string a2] rfl zl ?_; (with_reducible refine (spoof_Alike.calls kj3 a0 a2 t334 _ A12.out).mono ?_); rintro e w77 ⟨rfl, hb⟩; refine ⟨_, rfl, ?_⟩; have n0_ := Aside0.mk (below_step zb hb); clear HB; have HB := n0_; clear n0_; (try clear hb); (try clear hb2); (try clear hk); (try clear hi)) | ((with_reducible refine gate_callee (f := 6) rfl ?_); refine goesL_ (some 33) rfl rfl Try.func6 (by kernel_rfl) rfl #[] rfl zl ?_; (with_reducible refine (dactyllaw44_awake.calls kj3  true _ A13.out).mono ?_); rintro e w78 ⟨rfl, hb⟩; refine ⟨_, rfl, ?_⟩; have n0_ := Aside0.mk (below_step zb hb); clear HB; have HB := n0_; clear n0_; (try clear hb); (try clear hb2); (try clear hk); (try clear hi)) | (go_at_call 12; (with_reducible refine (dactylref44_Strip.calls kj3 a0 t336 _ A15.out).mono ?_); rintro e w79 ⟨rfl, hb⟩; have n0_ := Aside0.mk (below_step zb hb); clear HB; have HB := n0_; clear n0_; (try clear hb); (try clear hb2); (try clear hk); (try clear hi)) | (go_at_call 14; (with_reducible refine (dactylref44_Fold.calls kj3 t336 t337 _ A16.out).mono ?_); rintro e w80 ⟨rfl, hb⟩; have n0_ := Aside0.mk (below_step zb hb); clear HB; have HB := n0_; clear n0_; (try clear hb); (try clear hb2); (try clear hk); (try clear hi)) | (go_at_call 12; (with_reducible refine (dactylref44_Strip.calls kj3 a1 t338 _ A17.out).mono ?_); rintro e w81 ⟨rfl, hb⟩; have n0_ := Aside0.mk (below_step zb hb); clear HB; have HB := n0_; clear n0_; (try clear hb); (try clear hb2); (try clear hk); (try clear hi)) | (go_at_call 14; (with_reducible refine (dactylref44_Fold.calls kj3 t338 t339 _ A18.out).mono ?_); rintro e w82 ⟨rfl, hb⟩; have n0_ := Aside0.mk (below_step zb hb); clear HB; have HB := n0_; clear n0_; (try clear hb); (try clear hb2); (try clear hk); (try clear hi)))
      go_ret
      exact ⟨zr, zb⟩
    ·replace c14 := Bool.eq_false_iff.mpr c14
     subst c14
     have H1 : (some false) = some r := by rw [if_neg (show ¬ (false = true) by decide)] at H; exact H
     clear H
     have H := H1
     clear H1
     obtain rfl := Option.some.inj H
     go_wp2_with (first | ((with_reducible refine gate_callee (f := 15) rfl ?_); refine goesL_ (some 26) rfl rfl Try.func15 (by kernel_rfl) rfl #[.string a0, .string a1] rfl zl ?_; (with_reducible refine (spoof_Alike.calls kj3 a0 a1 t332 _ A10.out).mono ?_); rintro e w83 ⟨rfl, hb⟩; refine ⟨_, rfl, ?_⟩; have n0_ := Aside0.mk (below_step zb hb); clear HB; have HB := n0_; clear n0_; (try clear hb); (try clear hb2); (try clear hk); (try clear hi)) | ((with_reducible refine gate_callee (f := 15) rfl ?_); refine goesL_ (some 29) rfl rfl Try.func15 (by kernel_rfl) rfl #[.string a1, .string a2] rfl zl ?_; (with_reducible refine (spoof_Alike.calls kj3 a1 a2 t333 _ A11.out).mono ?_); rintro e w84 ⟨rfl, hb⟩; refine ⟨_, rfl, ?_⟩; have n0_ := Aside0.mk (below_step zb hb); clear HB; have HB := n0_; clear n0_; (try clear hb); (try clear hb2); (try clear hk); (try clear hi)) | ((with_reducible refine gate_callee (f := 15) rfl ?_); refine goesL_ (some 32) rfl rfl Try.func15 (by kernel_rfl) rfl #[.string a0, .string a2] rfl zl ?_; (with_reducible refine (spoof_Alike.calls kj3 a0 a2 t334 _ A12.out).mono ?_); rintro e w85 ⟨rfl, hb⟩; refine ⟨_, rfl, ?_⟩; have n0_ := Aside0.mk (below_step zb hb); clear HB; have HB := n0_; clear n0_; (try clear hb); (try clear hb2); (try clear hk); (try clear hi)) | ((with_reducible refine gate_callee (f := 6) rfl ?_); refine goesL_ (some 33) rfl rfl Try.func6 (by kernel_rfl) rfl #[] rfl zl ?_; (with_reducible refine (dactyllaw44_awake.calls kj3  false _ A13.out).mono ?_); rintro e w86 ⟨rfl, hb⟩; refine ⟨_, rfl, ?_⟩; have n0_ := Aside0.mk (below_step zb hb); clear HB; have HB := n0_; clear n0_; (try clear hb); (try clear hb2); (try clear hk); (try clear hi)))
     go_ret
     exact ⟨zr, zb⟩

/-- THE ONE PURE STATEMENT of dactyllaw44_SpoofAlike: yours. -/
def dactyllaw44_SpoofAlike.Pure : Prop := ∀ (a0 : ByteArray) (a1 : ByteArray) (a2 : ByteArray), a0.size ≤ 140737488351232 → a1.size ≤ 140737488351232 → a2.size ≤ 140737488351232 → ∃ k, dactyllaw44_SpoofAlike.f k a0 a1 a2 = some true
theorem dactyllaw44_SpoofAlike.walk (P : dactyllaw44_SpoofAlike.Pure) (a0 : ByteArray) (a1 : ByteArray) (a2 : ByteArray) (w : World) (w0 : a0.size ≤ 140737488351232) (w1 : a1.size ≤ 140737488351232) (w2 : a2.size ≤ 140737488351232) :
  Calls Try.prog 4 #[.string a0, .string a1, .string a2] w fun e w' => e = .returned (.bool true) ∧ Below w.heap.size w w' := by
 obtain ⟨k, h⟩ := P a0 a1 a2 w0 w1 w2
 refine (dactyllaw44_SpoofAlike.calls k a0 a1 a2 true w h).mono ?_
 rintro e w' ⟨rfl, hd⟩
 exact ⟨rfl, hd⟩

end Go.Proofs.Ytpkmoonfnbcphaa.PAll
