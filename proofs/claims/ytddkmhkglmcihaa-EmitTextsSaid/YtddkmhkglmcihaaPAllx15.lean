-- Printed for this claim by the session's own program (wip/tool/hprint.py) over the kit's print; some functions' texts are the session's own.
import Derived.Test.YtddkmhkglmcihaaPAllx0
import Derived.Test.YtddkmhkglmcihaaPAllx10
import Derived.Test.YtddkmhkglmcihaaPAllx11
import Derived.Test.YtddkmhkglmcihaaPAllx14
namespace Go.Proofs.Ytddkmhkglmcihaa.PAll
open Go.RowKit Go.Proofs.YtddkmhkglmcihaaW.PrintWords Go.Proofs.YtddkmhkglmcihaaW.PrintLast Go.Proofs.YtddkmhkglmcihaaW.PrintMore
attribute [local go_sem] max2_int min2_int max_two min_two max_three min_three max_four min_four   -- for this text's walks alone
set_option linter.unusedVariables false
set_option linter.unusedSimpArgs false

/-! ### dactylref10_Skeleton: function 19 -/
mutual
def dactylref10_Skeleton.l0 : Nat → List (S31) → List (S31) → Int → Option ((List (S31)))
 | 0, _, _, _ => none
 | k + 1, x3, x4, x5 => if x5 < (x3.length : Int) then (if 0 ≤ x5 then (if ((rd_T31 x3 x5).f0) = 0 then ((dactylref02_Decode.f k ((rd_T31 x3 x5).f3)).bind fun t325 => (dactylref10_Skeleton.l1 k x3 x4 x5 t325 0 0)) else (if x4.length < 3518437208883 then (dactylref10_Skeleton.l0 k x3 (x4 ++ [(⟨(rd_T31 x3 x5).f0, (rd_T31 x3 x5).f1, (rd_T31 x3 x5).f2, (rd_T31 x3 x5).f3⟩ : S31)]) (wrap64 (x5 + 1))) else (none))) else (none)) else (some x4)
def dactylref10_Skeleton.l1 : Nat → List (S31) → List (S31) → Int → List Int → Int → Int → Option ((List (S31)))
 | 0, _, _, _, _, _, _ => none
 | k + 1, x3, x4, x5, x6, x7, x8 => if x8 < (x6.length : Int) then (if 0 ≤ x8 then ((dactylref03_Width.f k (rd x6 x8)).bind fun t329 => (dactylref10_Skeleton.l1 k x3 x4 x5 x6 (wrap64 (x7 + t329)) (wrap64 (x8 + 1)))) else (none)) else (if x7 > 0 then (if x4.length < 3518437208883 then (dactylref10_Skeleton.l0 k x3 (x4 ++ [(⟨0, x7, 0, (⟨#[]⟩ : ByteArray)⟩ : S31)]) (wrap64 (x5 + 1))) else (none)) else (dactylref10_Skeleton.l0 k x3 x4 (wrap64 (x5 + 1))))
end
def dactylref10_Skeleton.f (k : Nat) (l0 : List (S31)) : Option ((List (S31))) := (dactylref10_Joined.f k l0).bind fun t316 => (dactylref10_Skeleton.l0 k t316 ([] : List (S31)) 0)
theorem dactylref10_Skeleton.mono_l : ∀ k, (∀ y0 y1 y2, LeO (dactylref10_Skeleton.l0 k y0 y1 y2) (dactylref10_Skeleton.l0 (k + 1) y0 y1 y2)) ∧ (∀ y0 y1 y2 y3 y4 y5, LeO (dactylref10_Skeleton.l1 k y0 y1 y2 y3 y4 y5) (dactylref10_Skeleton.l1 (k + 1) y0 y1 y2 y3 y4 y5))
 | 0 => ⟨fun _ _ _ r h => by simp [dactylref10_Skeleton.l0] at h, fun _ _ _ _ _ _ r h => by simp [dactylref10_Skeleton.l1] at h⟩
 | k + 1 => by
  obtain ⟨ih0, ih1⟩ := dactylref10_Skeleton.mono_l k
  refine ⟨?_, ?_⟩
  ·intro y0 y1 y2
   unfold dactylref10_Skeleton.l0
   repeat' first
   | (with_reducible exact ih0 _ _ _)
   | (with_reducible exact ih1 _ _ _ _ _ _)
   | (with_reducible exact dactylref02_Decode.mono _ _)
   | (with_reducible exact dactylref03_Width.mono _ _)
   | (with_reducible exact dactylref10_Joined.mono _ _)
   | (with_reducible exact LeO.refl _)
   | (with_reducible exact LeO.none _)
   | (with_reducible refine LeO.ite ?_ ?_)
   | (with_reducible refine LeO.bind ?_ (fun _ => ?_))
   | exact ih0 _ _ _
   | exact ih1 _ _ _ _ _ _
   | exact dactylref02_Decode.mono _ _
   | exact dactylref03_Width.mono _ _
   | exact dactylref10_Joined.mono _ _
   | exact LeO.none _
   | refine LeO.ite ?_ ?_
   | refine LeO.bind ?_ (fun _ => ?_)
  ·intro y0 y1 y2 y3 y4 y5
   unfold dactylref10_Skeleton.l1
   repeat' first
   | (with_reducible exact ih0 _ _ _)
   | (with_reducible exact ih1 _ _ _ _ _ _)
   | (with_reducible exact dactylref02_Decode.mono _ _)
   | (with_reducible exact dactylref03_Width.mono _ _)
   | (with_reducible exact dactylref10_Joined.mono _ _)
   | (with_reducible exact LeO.refl _)
   | (with_reducible exact LeO.none _)
   | (with_reducible refine LeO.ite ?_ ?_)
   | (with_reducible refine LeO.bind ?_ (fun _ => ?_))
   | exact ih0 _ _ _
   | exact ih1 _ _ _ _ _ _
   | exact dactylref02_Decode.mono _ _
   | exact dactylref03_Width.mono _ _
   | exact dactylref10_Joined.mono _ _
   | exact LeO.none _
   | refine LeO.ite ?_ ?_
   | refine LeO.bind ?_ (fun _ => ?_)
theorem dactylref10_Skeleton.mono : ∀ a0 k, LeO (dactylref10_Skeleton.f k a0) (dactylref10_Skeleton.f (k + 1) a0) := by
 intro a0 k
 obtain ⟨ih0, ih1⟩ := dactylref10_Skeleton.mono_l k
 unfold dactylref10_Skeleton.f
 repeat' first
   | (with_reducible exact ih0 _ _ _)
   | (with_reducible exact ih1 _ _ _ _ _ _)
   | (with_reducible exact dactylref02_Decode.mono _ _)
   | (with_reducible exact dactylref03_Width.mono _ _)
   | (with_reducible exact dactylref10_Joined.mono _ _)
   | (with_reducible exact LeO.refl _)
   | (with_reducible exact LeO.none _)
   | (with_reducible refine LeO.ite ?_ ?_)
   | (with_reducible refine LeO.bind ?_ (fun _ => ?_))
   | exact ih0 _ _ _
   | exact ih1 _ _ _ _ _ _
   | exact dactylref02_Decode.mono _ _
   | exact dactylref03_Width.mono _ _
   | exact dactylref10_Joined.mono _ _
   | exact LeO.none _
   | refine LeO.ite ?_ ?_
   | refine LeO.bind ?_ (fun _ => ?_)
set_option maxHeartbeats 8000000 in
set_option maxRecDepth 100000 in
theorem dactylref10_Skeleton.calls (k : Nat) (A0 : Option Addr) (c0 : Nat) (l0 : List (S31)) (r : List (S31)) (w : World) (hr0 : Kd.C k31 w A0 l0.length l0) (hc0 : l0.length ≤ c0) (h : dactylref10_Skeleton.f k l0 = some r) :
  Calls Try.prog 19 #[.slice A0 l0.length c0] w fun e w' => ∃ v0_ : Value, e = .returned (v0_) ∧ Kd.R k31 31 w' w.heap.size (fun _ => True) v0_ r ∧ Below w.heap.size w w' := by
 have hu31 := Try.underlying31
 have HR0 := Aside0.mk hr0
 have HC0 := Aside0.mk hc0
 clear hr0 hc0
 have HB := Aside0.mk (Below.refl w.heap.size w)
 have H : ((dactylref10_Joined.f k l0).bind fun t316 => (dactylref10_Skeleton.l0 k t316 ([] : List (S31)) 0)) = some r := h
 clear h
 replace H := Option.bind_eq_some_iff.mp H
 obtain ⟨t316, A20, H⟩ := H
 replace H : (dactylref10_Skeleton.l0 k t316 ([] : List (S31)) 0) = some r := H
 have A2 := Aside0.mk A20
 clear A20
 have H' := Aside0.mk H
 clear H
 go_enter Try.func19, Try.ntmps19
 go_wp2_with (first | ((with_reducible refine gate_callee (f := 17) rfl ?_); refine goesL_ (some 10) rfl rfl Try.func17 (by kernel_rfl) rfl #[.slice A0 l0.length c0] rfl zl ?_; (with_reducible refine (dactylref10_Joined.calls k _ _ l0 t316 _ ?side1 ?side2 A2.out).mono ?_); (case side1 => repeat (first | exact HR0.out | (with_reducible refine Kd.C_alloc ?_ _) | (with_reducible refine Kd.C_drewN ?_ _) | (with_reducible refine Kd.C_drew ?_))); (case side2 => exact HC0.out); rintro e w3 ⟨v317, rfl, ho0, hb⟩; refine ⟨_, rfl, ?_⟩; have n0_ := Aside0.mk (Kd.R_lower ho0 (below_size zb)); have n1_ := Aside0.mk (below_step zb hb); clear HB; have HO318 := n0_; have HB := n1_; clear n0_ n1_; (try clear hb); (try clear hb2); (try clear hk); (try clear hi); (try clear ho0)))
 go_loopg [4, 5] k (fun kq v4 v5 w' => ∃ (x4_1 : List (S31)) (x5_1 : Int), v5 = .int .i64 x5_1 ∧ Aside0 (dactylref10_Skeleton.l0 kq t316 x4_1 x5_1 = some r) ∧ Aside0 (kq ≤ k) ∧ Aside0 (Kd.R k31 31 w' w.heap.size (fun k_ => some k_ ≠ (v4 : Value).ownBlock) v317 t316) ∧ Aside0 (Kd.R k31 31 w' w.heap.size (fun k_ => some k_ ≠ (v317 : Value).ownBlock) v4 x4_1) ∧ Aside0 (Below w.heap.size w w'))
 case atStart => exact ⟨(([] : List (S31))), (0), (by first | rfl | (simp; done) | (simp [*]; done)), H', ⟨Nat.le_refl _⟩, ⟨by (with_reducible repeat (first | apply Kd.R_alloc | apply Kd.R_drewN | apply Kd.R_drew)); exact Kd.R_mono HO318.out (fun _ hk => (by simp [Value.ownBlock]))⟩, ⟨by first | exact Kd.R_nil _ _ _ _ _ | exact Kd.N_nil _ _ _ _ _ | exact Kd.V_nil _ _ _ _ _ | exact Kd.Q_nil _ _ _ _ _ | exact Kd.S_nil _ _ _ _ _⟩, ⟨by repeat (first | (with_reducible first | exact HB.out | apply below_alloc | apply pw_below_drewN | apply below_drew1) | exact HB.out)⟩⟩
 case round =>
  clear H'
  try clear c1
  try clear p2
  obtain ⟨x4_1, x5_1, rfl, HA, HK1, HO_3, HO_4, HB⟩ := hrel
  cases gk with
  | zero => exact absurd HA.out (by simp [dactylref10_Skeleton.l0])
  | succ k1 =>
   have H := HA.out
   clear HA
   simp only [dactylref10_Skeleton.l0] at H
   by_cases c4 : x5_1 < (t316.length : Int)
   ·rw [if_pos c4] at H
    have c4b0 : decide (x5_1 < (t316.length : Int)) = true := decide_eq_true c4
    clear c4
    by_cases c5 : 0 ≤ x5_1
    ·rw [if_pos c5] at H
     have c5b0 : decide (0 ≤ x5_1) = true := decide_eq_true c5
     clear c5
     by_cases c6 : ((rd_T31 t316 x5_1).f0) = 0
     ·rw [if_pos c6] at H
      have c6b0 : (((rd_T31 t316 x5_1).f0) == 0) = true := beq_iff_eq.mpr c6
      have c6b1 : (((rd_T31 t316 x5_1).f0) != 0) = false := bne_eq_false_iff_eq.mpr c6
      clear c6
      replace H := Option.bind_eq_some_iff.mp H
      obtain ⟨t325, A70, H⟩ := H
      replace H : (dactylref10_Skeleton.l1 k1 t316 x4_1 x5_1 t325 0 0) = some r := H
      have A7 := Aside0.mk A70
      clear A70
      have H' := Aside0.mk H
      clear H
      obtain ⟨Ao8, co8, eo8⟩ := Kd.R_slice HO_3.out
      subst eo8
      have p319 : 0 ≤ (x5_1 : Int) := of_decide_eq_true za
      have q319 : x5_1 < (t316.length : Int) := of_decide_eq_true za
      obtain ⟨ad319, e319, hx319_0, hx319_1, hx319_2, hx319_3⟩ := at_T31 (Kd.R_reads' HO_3.out).2.2 x5_1 p319 q319
      cases e319
      replace p319 := eq_true p319
      replace q319 := eq_true q319
      have p324 : 0 ≤ (x5_1 : Int) := of_decide_eq_true za
      have q324 : x5_1 < (t316.length : Int) := of_decide_eq_true za
      obtain ⟨ad324, e324, hx324_0, hx324_1, hx324_2, hx324_3⟩ := at_T31 (Kd.R_reads' HO_3.out).2.2 x5_1 p324 q324
      obtain rfl : ad319 = ad324 := (by injection e324)
      replace p324 := eq_true p324
      replace q324 := eq_true q324
      go_wp2_with (first | ((with_reducible refine gate_callee (f := 21) rfl ?_); refine goesL_ (some 35) rfl rfl Try.func21 (by kernel_rfl) rfl #[.string ((rd_T31 t316 x5_1).f3)] rfl zl ?_; (with_reducible refine (dactylref02_Decode.calls k1 ((rd_T31 t316 x5_1).f3) t325 _ A7.out).mono ?_); rintro e w9 ⟨v326, rfl, ho0, hb⟩; refine ⟨_, rfl, ?_⟩; have n0_ := Aside0.mk (Kd.R_below (zk HO_3.out) hb); have n1_ := Aside0.mk (Kd.R_below (zk HO_4.out) hb); have n2_ := Aside0.mk (Kd.R_lower ho0 (below_size zb)); have n3_ := Aside0.mk (below_step zb hb); clear HO_3; clear HO_4; clear HB; have HO_3 := n0_; have HO_4 := n1_; have HO327 := n2_; have HB := n3_; clear n0_ n1_ n2_ n3_; (try clear hb); (try clear hb2); (try clear hk); (try clear hi); (try clear ho0)))
      go_loopg [7, 8] k1 (fun kq v7 v8 w' => ∃ (x7_2 : Int) (x8_2 : Int), v7 = .int .i64 x7_2 ∧ v8 = .int .i64 x8_2 ∧ Aside0 (dactylref10_Skeleton.l1 kq t316 x4_1 x5_1 t325 x7_2 x8_2 = some r) ∧ Aside0 (kq ≤ k1) ∧ Aside0 (Kd.R k31 31 w' w.heap.size (fun k_ => some k_ ≠ (u4 : Value).ownBlock) (.slice (some ad319) t316.length co8) t316) ∧ Aside0 (Kd.R k31 31 w' w.heap.size (fun k_ => some k_ ≠ ((.slice (some ad319) t316.length co8) : Value).ownBlock) u4 x4_1) ∧ Aside0 (Kd.R (Kd.int .i64) 3 w' w.heap.size (fun _ => True) v326 t325) ∧ Aside0 (Below w.heap.size w w'))
      case atStart => exact ⟨(0), (0), (by first | rfl | (simp; done) | (simp [*]; done)), (by first | rfl | (simp; done) | (simp [*]; done)), H', ⟨Nat.le_refl _⟩, ⟨by (with_reducible repeat (first | apply Kd.R_alloc | apply Kd.R_drewN | apply Kd.R_drew)); exact HO_3.out⟩, ⟨by (with_reducible repeat (first | apply Kd.R_alloc | apply Kd.R_drewN | apply Kd.R_drew)); exact HO_4.out⟩, ⟨by (with_reducible repeat (first | apply Kd.R_alloc | apply Kd.R_drewN | apply Kd.R_drew)); exact HO327.out⟩, ⟨by repeat (first | (with_reducible first | exact HB.out | apply below_alloc | apply pw_below_drewN | apply below_drew1) | exact HB.out)⟩⟩
      case round =>
       clear H'
       try clear c1
       try clear c2
       try clear p2
       try clear p3
       try clear q3
       try clear hx3
       try clear c4
       try clear c4b0
       try clear c5
       try clear c5b0
       try clear c6
       try clear c6b0
       try clear c6b1
       try clear hx319_0
       try clear hx319_1
       try clear hx319_2
       try clear hx319_3
       try clear hx324_0
       try clear hx324_1
       try clear hx324_2
       try clear hx324_3
       try clear p2
       try clear p319
       try clear p324
       try clear q319
       try clear q324
       obtain ⟨x7_2, x8_2, rfl, rfl, HA, HK2, HO_3, HO_4, HO_6, HB⟩ := hrel
       cases gk with
       | zero => exact absurd HA.out (by simp [dactylref10_Skeleton.l1])
       | succ k2 =>
        have H := HA.out
        clear HA
        simp only [dactylref10_Skeleton.l1] at H
        by_cases c10 : x8_2 < (t325.length : Int)
        ·rw [if_pos c10] at H
         have c10b0 : decide (x8_2 < (t325.length : Int)) = true := decide_eq_true c10
         clear c10
         by_cases c11 : 0 ≤ x8_2
         ·rw [if_pos c11] at H
          have c11b0 : decide (0 ≤ x8_2) = true := decide_eq_true c11
          clear c11
          replace H := Option.bind_eq_some_iff.mp H
          obtain ⟨t329, A120, H⟩ := H
          replace H : (dactylref10_Skeleton.l1 k2 t316 x4_1 x5_1 t325 (wrap64 (x7_2 + t329)) (wrap64 (x8_2 + 1))) = some r := H
          have A12 := Aside0.mk A120
          clear A120
          have H' := Aside0.mk H
          clear H
          obtain ⟨Ao13, co13, eo13⟩ := Kd.R_slice HO_6.out
          subst eo13
          have p328 : 0 ≤ (x8_2 : Int) := of_decide_eq_true za
          have q328 : x8_2 < (t325.length : Int) := of_decide_eq_true za
          obtain ⟨ad328, e328, hx328_0⟩ := Kd.at_int (Kd.R_reads' HO_6.out).2.2 x8_2 p328 q328
          cases e328
          replace p328 := eq_true p328
          replace q328 := eq_true q328
          go_wp2_with (first | ((with_reducible refine gate_callee (f := 33) rfl ?_); refine goesL_ (some 47) rfl rfl Try.func33 (by kernel_rfl) rfl #[.int .i64 (rd t325 x8_2)] rfl zl ?_; (with_reducible refine (dactylref03_Width.calls k2 (rd t325 x8_2) t329 _ A12.out).mono ?_); rintro e w14 ⟨rfl, hb⟩; refine ⟨_, rfl, ?_⟩; have n0_ := Aside0.mk (Kd.R_below (zk HO_3.out) hb); have n1_ := Aside0.mk (Kd.R_below (zk HO_4.out) hb); have n2_ := Aside0.mk (Kd.R_below (zk HO_6.out) hb); have n3_ := Aside0.mk (below_step zb hb); clear HO_3; clear HO_4; clear HO_6; clear HB; have HO_3 := n0_; have HO_4 := n1_; have HO_6 := n2_; have HB := n3_; clear n0_ n1_ n2_ n3_; (try clear hb); (try clear hb2); (try clear hk); (try clear hi)))
          go_roundg k2
          case measure => have := HK1.out; have := HK2.out; omega
          case rel => exact ⟨(wrap64 (x7_2 + t329)), (wrap64 (x8_2 + 1)), (by first | rfl | (simp; done) | (simp [*]; done)), (by first | rfl | (simp; done) | (simp [*]; done)), H', ⟨by have := HK1.out; have := HK2.out; omega⟩, ⟨by (with_reducible repeat (first | apply Kd.R_alloc | apply Kd.R_drewN | apply Kd.R_drew)); exact HO_3.out⟩, ⟨by (with_reducible repeat (first | apply Kd.R_alloc | apply Kd.R_drewN | apply Kd.R_drew)); exact HO_4.out⟩, ⟨by (with_reducible repeat (first | apply Kd.R_alloc | apply Kd.R_drewN | apply Kd.R_drew)); exact HO_6.out⟩, ⟨by repeat (first | (with_reducible first | exact HB.out | apply below_alloc | apply pw_below_drewN | apply below_drew1) | exact HB.out)⟩⟩
         ·rw [if_neg c11] at H
          exact absurd H (by simp)
        ·rw [if_neg c10] at H
         have c10b0 : decide (x8_2 < (t325.length : Int)) = false := decide_eq_false c10
         clear c10
         by_cases c15 : x7_2 > 0
         ·rw [if_pos c15] at H
          have c15b0 : decide (0 < x7_2) = true := decide_eq_true c15
          clear c15
          by_cases c16 : x4_1.length < 3518437208883
          ·rw [if_pos c16] at H
           have LMc16 := Aside0.mk c16
           clear c16
           obtain ⟨y330, hy330⟩ : ∃ y_ : List (S31), y_ = (x4_1 ++ [(⟨0, x7_2, 0, (⟨#[]⟩ : ByteArray)⟩ : S31)]) := ⟨_, rfl⟩
           replace H : (dactylref10_Skeleton.l0 k2 t316 y330 (wrap64 (x5_1 + 1))) = some r := by first | (rw [hy330]; with_reducible exact H) | (have H2_ := (Option.bind_some _ _).symm.trans H; rw [hy330]; with_reducible exact H2_) | (have H2_ := (Option.bind_some _ _).symm.trans H; with_reducible exact H2_) | with_reducible exact H | (rw [hy330]; exact H) | exact H
           have Ny330 := Aside0.mk hy330
           clear hy330
           have H' := Aside0.mk H
           clear H
           obtain ⟨Ao17, co17, eo17⟩ := Kd.R_slice HO_6.out
           subst eo17
           go_wp2_with (first | ((with_reducible refine gate_builtin (b := .append) (xs := #[.tmp 51, .tmp 54]) rfl ?_); at_builtin; refine Kd.R_append k31 (w0 := w) w.heap.size rfl (.tmp 51) (.tmp 54) 22 31 (.agg #[(.int .i64 0), (.int .i64 0), (.int .i64 0), (.string ⟨#[]⟩)]) 40 rfl Try.underlying22 info31 rfl (by decide) (by omega) u4 x4_1 (⟨0, x7_2, 0, (⟨#[]⟩ : ByteArray)⟩ : S31) [.int .i64 0, .int .i64 x7_2, .int .i64 0, .string (⟨#[]⟩ : ByteArray)] (fun k_ => some k_ ≠ (.slice (some ad319) t316.length co8 : Value).ownBlock) (fun _ => False) rfl rfl ?aP (fun _ hk => hk.elim) ?aF ?aO ?aB ?aS ?aL ?_; (case aP => exact k31_mkM _ _ _ (⟨0, x7_2, 0, (⟨#[]⟩ : ByteArray)⟩ : S31)); (case aB => exact zb); (case aF => exact (fun k_ hk => Kd.fresh' (Kd.R_lt (zk HO_3.out)) k_ hk)); (case aO => exact (zk HO_4.out)); (case aS => exact (below_size zb)); (case aL => have := LMc16.out; omega); intro v331 w18 ho hb hg hat; rw [← Ny330.out] at ho; have n0_ := Aside0.mk (Kd.R_after (ok := (fun _ => True)) (by (with_reducible repeat (first | apply Kd.R_alloc | apply Kd.R_drewN | apply Kd.R_drew)); exact Kd.R_mono HO_3.out (fun _ hk => ⟨trivial, hk⟩)) hg hat); have n1_ := Aside0.mk (Kd.R_over' (zk HO_6.out) (Kd.R_typed (zk HO_4.out)) (by decide) hg); have n2_ := Aside0.mk (hb); have n3_ := Aside0.mk (ho); clear HO_3; clear HO_6; clear HB; clear HO_4; have HO_3 := n0_; have HO_6 := n1_; have HB := n2_; have HO332 := n3_; clear n0_ n1_ n2_ n3_; clear ho hb hg hat))
           go_roundg k2
           case measure => have := HK1.out; have := HK2.out; omega
           case rel => exact ⟨(y330), (wrap64 (x5_1 + 1)), (by first | rfl | (simp; done) | (simp [*]; done)), H', ⟨by have := HK1.out; have := HK2.out; omega⟩, ⟨by (with_reducible repeat (first | apply Kd.R_alloc | apply Kd.R_drewN | apply Kd.R_drew)); exact Kd.R_mono HO_3.out (fun _ hk => hk.2)⟩, ⟨by (with_reducible repeat (first | apply Kd.R_alloc | apply Kd.R_drewN | apply Kd.R_drew)); exact HO332.out⟩, ⟨by repeat (first | (with_reducible first | exact HB.out | apply below_alloc | apply pw_below_drewN | apply below_drew1) | exact HB.out)⟩⟩
          ·rw [if_neg c16] at H
           exact absurd H (by simp)
         ·rw [if_neg c15] at H
          have c15b0 : decide (0 < x7_2) = false := decide_eq_false c15
          clear c15
          have H' := Aside0.mk H
          clear H
          obtain ⟨Ao19, co19, eo19⟩ := Kd.R_slice HO_6.out
          subst eo19
          go_wp2
          go_roundg k2
          case measure => have := HK1.out; have := HK2.out; omega
          case rel => exact ⟨(x4_1), (wrap64 (x5_1 + 1)), (by first | rfl | (simp; done) | (simp [*]; done)), H', ⟨by have := HK1.out; have := HK2.out; omega⟩, ⟨by (with_reducible repeat (first | apply Kd.R_alloc | apply Kd.R_drewN | apply Kd.R_drew)); exact HO_3.out⟩, ⟨by (with_reducible repeat (first | apply Kd.R_alloc | apply Kd.R_drewN | apply Kd.R_drew)); exact HO_4.out⟩, ⟨by repeat (first | (with_reducible first | exact HB.out | apply below_alloc | apply pw_below_drewN | apply below_drew1) | exact HB.out)⟩⟩
     ·rw [if_neg c6] at H
      have c6b0 : (((rd_T31 t316 x5_1).f0) == 0) = false := beq_eq_false_iff_ne.mpr c6
      have c6b1 : (((rd_T31 t316 x5_1).f0) != 0) = true := bne_iff_ne.mpr c6
      by_cases c20 : x4_1.length < 3518437208883
      ·rw [if_pos c20] at H
       have LMc20 := Aside0.mk c20
       clear c20
       obtain ⟨y321, hy321⟩ : ∃ y_ : List (S31), y_ = (x4_1 ++ [(⟨(rd_T31 t316 x5_1).f0, (rd_T31 t316 x5_1).f1, (rd_T31 t316 x5_1).f2, (rd_T31 t316 x5_1).f3⟩ : S31)]) := ⟨_, rfl⟩
       replace H : (dactylref10_Skeleton.l0 k1 t316 y321 (wrap64 (x5_1 + 1))) = some r := by first | (rw [hy321]; with_reducible exact H) | (have H2_ := (Option.bind_some _ _).symm.trans H; rw [hy321]; with_reducible exact H2_) | (have H2_ := (Option.bind_some _ _).symm.trans H; with_reducible exact H2_) | with_reducible exact H | (rw [hy321]; exact H) | exact H
       have Ny321 := Aside0.mk hy321
       clear hy321
       have H' := Aside0.mk H
       clear H
       obtain ⟨Ao21, co21, eo21⟩ := Kd.R_slice HO_3.out
       subst eo21
       have p319 : 0 ≤ (x5_1 : Int) := of_decide_eq_true za
       have q319 : x5_1 < (t316.length : Int) := of_decide_eq_true za
       obtain ⟨ad319, e319, hx319_0, hx319_1, hx319_2, hx319_3⟩ := at_T31 (Kd.R_reads' HO_3.out).2.2 x5_1 p319 q319
       cases e319
       replace p319 := eq_true p319
       replace q319 := eq_true q319
       have p320 : 0 ≤ (x5_1 : Int) := of_decide_eq_true za
       have q320 : x5_1 < (t316.length : Int) := of_decide_eq_true za
       obtain ⟨ad320, e320, hx320_0, hx320_1, hx320_2, hx320_3⟩ := at_T31 (Kd.R_reads' HO_3.out).2.2 x5_1 p320 q320
       obtain rfl : ad319 = ad320 := (by injection e320)
       replace p320 := eq_true p320
       replace q320 := eq_true q320
       go_wp2_with (first | ((with_reducible refine gate_builtin (b := .append) (xs := #[.tmp 23, .tmp 28]) rfl ?_); at_builtin; refine Kd.R_append k31 (w0 := w) w.heap.size rfl (.tmp 23) (.tmp 28) 22 31 (.agg #[(.int .i64 0), (.int .i64 0), (.int .i64 0), (.string ⟨#[]⟩)]) 40 rfl Try.underlying22 info31 rfl (by decide) (by omega) u4 x4_1 (⟨(rd_T31 t316 x5_1).f0, (rd_T31 t316 x5_1).f1, (rd_T31 t316 x5_1).f2, (rd_T31 t316 x5_1).f3⟩ : S31) [.int .i64 ((rd_T31 t316 x5_1).f0), .int .i64 ((rd_T31 t316 x5_1).f1), .int .i64 ((rd_T31 t316 x5_1).f2), .string ((rd_T31 t316 x5_1).f3)] (fun k_ => some k_ ≠ (.slice (some ad319) t316.length co21 : Value).ownBlock) (fun _ => False) rfl rfl ?aP (fun _ hk => hk.elim) ?aF ?aO ?aB ?aS ?aL ?_; (case aP => exact k31_mkM _ _ _ (⟨(rd_T31 t316 x5_1).f0, (rd_T31 t316 x5_1).f1, (rd_T31 t316 x5_1).f2, (rd_T31 t316 x5_1).f3⟩ : S31)); (case aB => exact zb); (case aF => exact (fun k_ hk => Kd.fresh' (Kd.R_lt (zk HO_3.out)) k_ hk)); (case aO => exact (zk HO_4.out)); (case aS => exact (below_size zb)); (case aL => have := LMc20.out; omega); intro v322 w22 ho hb hg hat; rw [← Ny321.out] at ho; have n0_ := Aside0.mk (Kd.R_after (ok := (fun _ => True)) (by (with_reducible repeat (first | apply Kd.R_alloc | apply Kd.R_drewN | apply Kd.R_drew)); exact Kd.R_mono HO_3.out (fun _ hk => ⟨trivial, hk⟩)) hg hat); have n1_ := Aside0.mk (hb); have n2_ := Aside0.mk (ho); clear HO_3; clear HB; clear HO_4; have HO_3 := n0_; have HB := n1_; have HO323 := n2_; clear n0_ n1_ n2_; clear ho hb hg hat))
       go_roundg k1
       case measure => have := HK1.out; omega
       case rel => exact ⟨(y321), (wrap64 (x5_1 + 1)), (by first | rfl | (simp; done) | (simp [*]; done)), H', ⟨by have := HK1.out; omega⟩, ⟨by (with_reducible repeat (first | apply Kd.R_alloc | apply Kd.R_drewN | apply Kd.R_drew)); exact Kd.R_mono HO_3.out (fun _ hk => hk.2)⟩, ⟨by (with_reducible repeat (first | apply Kd.R_alloc | apply Kd.R_drewN | apply Kd.R_drew)); exact HO323.out⟩, ⟨by repeat (first | (with_reducible first | exact HB.out | apply below_alloc | apply pw_below_drewN | apply below_drew1) | exact HB.out)⟩⟩
      ·rw [if_neg c20] at H
       exact absurd H (by simp)
    ·rw [if_neg c5] at H
     exact absurd H (by simp)
   ·rw [if_neg c4] at H
    have c4b0 : decide (x5_1 < (t316.length : Int)) = false := decide_eq_false c4
    clear c4
    obtain rfl := Option.some.inj H
    obtain ⟨Ao23, co23, eo23⟩ := Kd.R_slice HO_3.out
    subst eo23
    go_wp2
    go_ret
    exact ⟨_, zr, by (with_reducible repeat (first | apply Kd.R_alloc | apply Kd.R_drewN | apply Kd.R_drew)); exact Kd.R_mono HO_4.out (fun _ hk => trivial), by repeat (first | (with_reducible first | exact HB.out | apply below_alloc | apply pw_below_drewN | apply below_drew1) | exact HB.out)⟩

end Go.Proofs.Ytddkmhkglmcihaa.PAll
