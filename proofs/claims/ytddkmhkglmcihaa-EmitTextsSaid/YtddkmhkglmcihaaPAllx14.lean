-- Printed for this claim by the session's own program (wip/tool/hprint.py) over the kit's print; some functions' texts are the session's own.
import Derived.Test.YtddkmhkglmcihaaPAllx0
namespace Go.Proofs.Ytddkmhkglmcihaa.PAll
open Go.RowKit Go.Proofs.YtddkmhkglmcihaaW.PrintWords Go.Proofs.YtddkmhkglmcihaaW.PrintLast Go.Proofs.YtddkmhkglmcihaaW.PrintMore
attribute [local go_sem] max2_int min2_int max_two min_two max_three min_three max_four min_four   -- for this text's walks alone
set_option linter.unusedVariables false
set_option linter.unusedSimpArgs false

/-! ### dactylref10_Joined: function 17 -/
def dactylref10_Joined.l0 : Nat → List (S31) → List (S31) → Int → Option ((List (S31)))
 | 0, _, _, _ => none
 | k + 1, x0, x3, x4 => if x4 < (x0.length : Int) then (if (x3.length : Int) > 0 then (if 0 ≤ x4 then (if ((rd_T31 x0 x4).f0) = 0 then (if 0 ≤ (wrap64 ((x3.length : Int) - 1)) then (if (wrap64 ((x3.length : Int) - 1)) < (x3.length : Int) then (if ((rd_T31 x3 (wrap64 ((x3.length : Int) - 1))).f0) = 0 then (if ((rd_T31 x3 (wrap64 ((x3.length : Int) - 1))).f3).size + ((rd_T31 x0 x4).f3).size ≤ 9223372036854775807 then ((some (([] : List (S31)) : List (S31))).bind fun y279 => (if (wrap64 ((x3.length : Int) - 1)) ≤ (x3.length : Int) then ((some (x3.take ((wrap64 ((x3.length : Int) - 1)) : Int).toNat : List (S31))).bind fun y282 => (if y279.length + y282.length < 3518437208883 then ((some (y279 ++ y282 : List (S31))).bind fun y286 => ((some (([(⟨(rd_T31 x3 (wrap64 ((x3.length : Int) - 1))).f0, (rd_T31 x3 (wrap64 ((x3.length : Int) - 1))).f1, (rd_T31 x3 (wrap64 ((x3.length : Int) - 1))).f2, ((rd_T31 x3 (wrap64 ((x3.length : Int) - 1))).f3) ++ ((rd_T31 x0 x4).f3)⟩ : S31)] : List (S31)) : List (S31))).bind fun y289 => (if y286.length + y289.length < 3518437208883 then (dactylref10_Joined.l0 k x0 (y286 ++ y289) (wrap64 (x4 + 1))) else (none)))) else (none))) else (none))) else (none)) else ((some (([(⟨(rd_T31 x0 x4).f0, (rd_T31 x0 x4).f1, (rd_T31 x0 x4).f2, (rd_T31 x0 x4).f3⟩ : S31)] : List (S31)) : List (S31))).bind fun y296 => (if x3.length + y296.length < 3518437208883 then (dactylref10_Joined.l0 k x0 (x3 ++ y296) (wrap64 (x4 + 1))) else (none)))) else (none)) else (none)) else ((some (([(⟨(rd_T31 x0 x4).f0, (rd_T31 x0 x4).f1, (rd_T31 x0 x4).f2, (rd_T31 x0 x4).f3⟩ : S31)] : List (S31)) : List (S31))).bind fun y303 => (if x3.length + y303.length < 3518437208883 then (dactylref10_Joined.l0 k x0 (x3 ++ y303) (wrap64 (x4 + 1))) else (none)))) else (none)) else (if 0 ≤ x4 then ((some (([(⟨(rd_T31 x0 x4).f0, (rd_T31 x0 x4).f1, (rd_T31 x0 x4).f2, (rd_T31 x0 x4).f3⟩ : S31)] : List (S31)) : List (S31))).bind fun y310 => (if x3.length + y310.length < 3518437208883 then (dactylref10_Joined.l0 k x0 (x3 ++ y310) (wrap64 (x4 + 1))) else (none))) else (none))) else (some x3)
def dactylref10_Joined.f (k : Nat) (l0 : List (S31)) : Option ((List (S31))) := dactylref10_Joined.l0 k l0 ([] : List (S31)) 0
theorem dactylref10_Joined.mono_l : ∀ k, (∀ y0 y1 y2, LeO (dactylref10_Joined.l0 k y0 y1 y2) (dactylref10_Joined.l0 (k + 1) y0 y1 y2))
 | 0 => fun _ _ _ r h => by simp [dactylref10_Joined.l0] at h
 | k + 1 => by
  have ih0 := dactylref10_Joined.mono_l k
  ·intro y0 y1 y2
   unfold dactylref10_Joined.l0
   repeat' first
   | (with_reducible exact ih0 _ _ _)
   | (with_reducible exact LeO.refl _)
   | (with_reducible exact LeO.none _)
   | (with_reducible refine LeO.ite ?_ ?_)
   | (with_reducible refine LeO.bind ?_ (fun _ => ?_))
   | exact ih0 _ _ _
   | exact LeO.none _
   | refine LeO.ite ?_ ?_
   | refine LeO.bind ?_ (fun _ => ?_)
theorem dactylref10_Joined.mono : ∀ a0 k, LeO (dactylref10_Joined.f k a0) (dactylref10_Joined.f (k + 1) a0) := by
 intro a0 k
 have ih0 := dactylref10_Joined.mono_l k
 unfold dactylref10_Joined.f
 repeat' first
   | (with_reducible exact ih0 _ _ _)
   | (with_reducible exact LeO.refl _)
   | (with_reducible exact LeO.none _)
   | (with_reducible refine LeO.ite ?_ ?_)
   | (with_reducible refine LeO.bind ?_ (fun _ => ?_))
   | exact ih0 _ _ _
   | exact LeO.none _
   | refine LeO.ite ?_ ?_
   | refine LeO.bind ?_ (fun _ => ?_)
def dactylref10_Joined.T8 : Bool × List (List Nat × List Nat) := (true, [([], []), ([0], [0]), ([], []), ([], []), ([2, 3], [2, 3]), ([4], [4]), ([5], [5]), ([1, 6], [1, 6]), ([0, 1, 2, 3, 4, 5, 6, 7], []), ([8, 7, 0, 1, 2, 3, 4, 5, 6, 7], [7, 8])])
def dactylref10_Joined.B8 : List Nat := [0, 1, 0, 0, 12, 28, 60, 127, 255, 511]
theorem dactylref10_Joined.tab8 : rtab .any (opsOf Try.f17 8) = dactylref10_Joined.T8 := by kernel_rfl
theorem dactylref10_Joined.bits8 : waitsOk dactylref10_Joined.T8.2 dactylref10_Joined.B8 = true := by kernel_rfl
def dactylref10_Joined.T9 : Bool × List (List Nat × List Nat) := (true, [([], []), ([], []), ([], []), ([2], [2]), ([1, 3], [1, 3]), ([0, 4], [0, 4]), ([], []), ([6], [6]), ([5, 7, 5], [5, 7]), ([8, 8, 0, 1, 2, 3, 4, 5, 6, 7, 8], [1, 8])])
def dactylref10_Joined.B9 : List Nat := [0, 0, 0, 4, 14, 31, 0, 64, 255, 511]
theorem dactylref10_Joined.tab9 : rtab .any (opsOf Try.f17 9) = dactylref10_Joined.T9 := by kernel_rfl
theorem dactylref10_Joined.bits9 : waitsOk dactylref10_Joined.T9.2 dactylref10_Joined.B9 = true := by kernel_rfl
set_option maxHeartbeats 8000000 in
set_option maxRecDepth 100000 in
theorem dactylref10_Joined.calls (k : Nat) (A0 : Option Addr) (c0 : Nat) (l0 : List (S31)) (r : List (S31)) (w : World) (hr0 : Kd.C k31 w A0 l0.length l0) (hc0 : l0.length ≤ c0) (h : dactylref10_Joined.f k l0 = some r) :
  Calls Try.prog 17 #[.slice A0 l0.length c0] w fun e w' => ∃ v0_ : Value, e = .returned (v0_) ∧ Kd.R k31 31 w' w.heap.size (fun _ => True) v0_ r ∧ Below w.heap.size w w' := by
 have hu31 := Try.underlying31
 have HR0 := Aside0.mk hr0
 have HC0 := Aside0.mk hc0
 clear hr0 hc0
 have HB := Aside0.mk (Below.refl w.heap.size w)
 have H : (dactylref10_Joined.l0 k l0 ([] : List (S31)) 0) = some r := h
 clear h
 have H' := Aside0.mk H
 clear H
 go_enter Try.func17, Try.ntmps17
 go_wp2
 go_loopg [3, 4] k (fun kq v3 v4 w' => ∃ (x3_1 : List (S31)) (x4_1 : Int), v4 = .int .i64 x4_1 ∧ Aside0 (dactylref10_Joined.l0 kq l0 x3_1 x4_1 = some r) ∧ Aside0 (kq ≤ k) ∧ Aside0 (Kd.R k31 31 w' w.heap.size (fun _ => True) v3 x3_1) ∧ Aside0 (Below w.heap.size w w'))
 case atStart => exact ⟨(([] : List (S31))), (0), (by first | rfl | (simp; done) | (simp [*]; done)), H', ⟨Nat.le_refl _⟩, ⟨by first | exact Kd.R_nil _ _ _ _ _ | exact Kd.N_nil _ _ _ _ _ | exact Kd.V_nil _ _ _ _ _ | exact Kd.Q_nil _ _ _ _ _ | exact Kd.S_nil _ _ _ _ _⟩, ⟨by repeat (first | (with_reducible first | exact HB.out | apply below_alloc | apply pw_below_drewN | apply below_drew1) | exact HB.out)⟩⟩
 case round =>
  clear H'
  try clear c1
  obtain ⟨x3_1, x4_1, rfl, HA, HK1, HO_3, HB⟩ := hrel
  cases gk with
  | zero => exact absurd HA.out (by simp [dactylref10_Joined.l0])
  | succ k1 =>
   have H := HA.out
   clear HA
   simp only [dactylref10_Joined.l0] at H
   by_cases c2 : x4_1 < (l0.length : Int)
   ·rw [if_pos c2] at H
    have c2b0 : decide (x4_1 < (l0.length : Int)) = true := decide_eq_true c2
    clear c2
    by_cases c3 : (x3_1.length : Int) > 0
    ·rw [if_pos c3] at H
     have c3b0 : decide (0 < (x3_1.length : Int)) = true := decide_eq_true c3
     have c3b1 : decide (0 < x3_1.length) = true := decide_eq_true (by omega)
     clear c3
     by_cases c4 : 0 ≤ x4_1
     ·rw [if_pos c4] at H
      have c4b0 : decide (0 ≤ x4_1) = true := decide_eq_true c4
      clear c4
      by_cases c5 : ((rd_T31 l0 x4_1).f0) = 0
      ·rw [if_pos c5] at H
       have c5b0 : (((rd_T31 l0 x4_1).f0) == 0) = true := beq_iff_eq.mpr c5
       have c5b1 : (((rd_T31 l0 x4_1).f0) != 0) = false := bne_eq_false_iff_eq.mpr c5
       clear c5
       obtain ⟨ji6, hji6⟩ : ∃ j_ : Int, (wrap64 ((x3_1.length : Int) - 1)) = j_ := ⟨_, rfl⟩
       replace H : (if 0 ≤ (ji6) then (if (ji6) < (x3_1.length : Int) then (if ((rd_T31 x3_1 (ji6)).f0) = 0 then (if ((rd_T31 x3_1 (ji6)).f3).size + ((rd_T31 l0 x4_1).f3).size ≤ 9223372036854775807 then ((some (([] : List (S31)) : List (S31))).bind fun y279 => (if (ji6) ≤ (x3_1.length : Int) then ((some (x3_1.take ((ji6) : Int).toNat : List (S31))).bind fun y282 => (if y279.length + y282.length < 3518437208883 then ((some (y279 ++ y282 : List (S31))).bind fun y286 => ((some (([(⟨(rd_T31 x3_1 (ji6)).f0, (rd_T31 x3_1 (ji6)).f1, (rd_T31 x3_1 (ji6)).f2, ((rd_T31 x3_1 (ji6)).f3) ++ ((rd_T31 l0 x4_1).f3)⟩ : S31)] : List (S31)) : List (S31))).bind fun y289 => (if y286.length + y289.length < 3518437208883 then (dactylref10_Joined.l0 k1 l0 (y286 ++ y289) (wrap64 (x4_1 + 1))) else (none)))) else (none))) else (none))) else (none)) else ((some (([(⟨(rd_T31 l0 x4_1).f0, (rd_T31 l0 x4_1).f1, (rd_T31 l0 x4_1).f2, (rd_T31 l0 x4_1).f3⟩ : S31)] : List (S31)) : List (S31))).bind fun y296 => (if x3_1.length + y296.length < 3518437208883 then (dactylref10_Joined.l0 k1 l0 (x3_1 ++ y296) (wrap64 (x4_1 + 1))) else (none)))) else (none)) else (none)) = some r := by first | (rw [hji6] at H; exact H) | (simp only [hji6] at H ⊢; exact H)
       have hji6w : (IntKind.i64.wrap ((x3_1.length : Int) - 1)) = ji6 := (i64_w _).trans hji6
       by_cases c7 : 0 ≤ (ji6)
       ·rw [if_pos c7] at H
        have c7b0 : decide (0 ≤ (ji6)) = true := decide_eq_true c7
        clear c7
        by_cases c8 : (ji6) < (x3_1.length : Int)
        ·rw [if_pos c8] at H
         have c8b0 : decide ((ji6) < (x3_1.length : Int)) = true := decide_eq_true c8
         clear c8
         by_cases c9 : ((rd_T31 x3_1 (ji6)).f0) = 0
         ·rw [if_pos c9] at H
          have c9b0 : (((rd_T31 x3_1 (ji6)).f0) == 0) = true := beq_iff_eq.mpr c9
          have c9b1 : (((rd_T31 x3_1 (ji6)).f0) != 0) = false := bne_eq_false_iff_eq.mpr c9
          clear c9
          by_cases c10 : ((rd_T31 x3_1 (ji6)).f3).size + ((rd_T31 l0 x4_1).f3).size ≤ 9223372036854775807
          ·rw [if_pos c10] at H
           have c10b0 := eq_true c10
           have c10b1 : decide (((rd_T31 x3_1 (ji6)).f3).size + ((rd_T31 l0 x4_1).f3).size ≤ 9223372036854775807) = true := decide_eq_true c10
           try have c10b2 : (9223372036854775807 < ((rd_T31 x3_1 (ji6)).f3).size + ((rd_T31 l0 x4_1).f3).size) = False := eq_false (Nat.not_lt.2 c10)
           obtain ⟨y279, hy279⟩ : ∃ y_ : List (S31), y_ = (([] : List (S31))) := ⟨_, rfl⟩
           replace H : (if (ji6) ≤ (x3_1.length : Int) then ((some (x3_1.take ((ji6) : Int).toNat : List (S31))).bind fun y282 => (if y279.length + y282.length < 3518437208883 then ((some (y279 ++ y282 : List (S31))).bind fun y286 => ((some (([(⟨(rd_T31 x3_1 (ji6)).f0, (rd_T31 x3_1 (ji6)).f1, (rd_T31 x3_1 (ji6)).f2, ((rd_T31 x3_1 (ji6)).f3) ++ ((rd_T31 l0 x4_1).f3)⟩ : S31)] : List (S31)) : List (S31))).bind fun y289 => (if y286.length + y289.length < 3518437208883 then (dactylref10_Joined.l0 k1 l0 (y286 ++ y289) (wrap64 (x4_1 + 1))) else (none)))) else (none))) else (none)) = some r := by first | (rw [hy279]; with_reducible exact H) | (have H2_ := (Option.bind_some _ _).symm.trans H; rw [hy279]; with_reducible exact H2_) | (have H2_ := (Option.bind_some _ _).symm.trans H; with_reducible exact H2_) | with_reducible exact H | (rw [hy279]; exact H) | exact H
           have Ny279 := Aside0.mk hy279
           clear hy279
           have c11b0 := eq_true (of_decide_eq_true za : 0 ≤ (ji6))
           by_cases c12 : (ji6) ≤ (x3_1.length : Int)
           ·rw [if_pos c12] at H
            have c12b0 := eq_true c12
            have c12b1 : decide ((ji6) ≤ (x3_1.length : Int)) = true := decide_eq_true c12
            clear c12
            obtain ⟨y282, hy282⟩ : ∃ y_ : List (S31), y_ = (x3_1.take ((ji6) : Int).toNat) := ⟨_, rfl⟩
            replace H : (if y279.length + y282.length < 3518437208883 then ((some (y279 ++ y282 : List (S31))).bind fun y286 => ((some (([(⟨(rd_T31 x3_1 (ji6)).f0, (rd_T31 x3_1 (ji6)).f1, (rd_T31 x3_1 (ji6)).f2, ((rd_T31 x3_1 (ji6)).f3) ++ ((rd_T31 l0 x4_1).f3)⟩ : S31)] : List (S31)) : List (S31))).bind fun y289 => (if y286.length + y289.length < 3518437208883 then (dactylref10_Joined.l0 k1 l0 (y286 ++ y289) (wrap64 (x4_1 + 1))) else (none)))) else (none)) = some r := by first | (rw [hy282]; with_reducible exact H) | (have H2_ := (Option.bind_some _ _).symm.trans H; rw [hy282]; with_reducible exact H2_) | (have H2_ := (Option.bind_some _ _).symm.trans H; with_reducible exact H2_) | with_reducible exact H | (rw [hy282]; exact H) | exact H
            have Ny282 := Aside0.mk hy282
            clear hy282
            by_cases c13 : y279.length + y282.length < 3518437208883
            ·rw [if_pos c13] at H
             have LMc13 := Aside0.mk c13
             clear c13
             obtain ⟨y286, hy286⟩ : ∃ y_ : List (S31), y_ = (y279 ++ y282) := ⟨_, rfl⟩
             replace H : ((some (([(⟨(rd_T31 x3_1 (ji6)).f0, (rd_T31 x3_1 (ji6)).f1, (rd_T31 x3_1 (ji6)).f2, ((rd_T31 x3_1 (ji6)).f3) ++ ((rd_T31 l0 x4_1).f3)⟩ : S31)] : List (S31)) : List (S31))).bind fun y289 => (if y286.length + y289.length < 3518437208883 then (dactylref10_Joined.l0 k1 l0 (y286 ++ y289) (wrap64 (x4_1 + 1))) else (none))) = some r := by first | (rw [hy286]; with_reducible exact H) | (have H2_ := (Option.bind_some _ _).symm.trans H; rw [hy286]; with_reducible exact H2_) | (have H2_ := (Option.bind_some _ _).symm.trans H; with_reducible exact H2_) | with_reducible exact H | (rw [hy286]; exact H) | exact H
             have Ny286 := Aside0.mk hy286
             clear hy286
             obtain ⟨y289, hy289⟩ : ∃ y_ : List (S31), y_ = (([(⟨(rd_T31 x3_1 (ji6)).f0, (rd_T31 x3_1 (ji6)).f1, (rd_T31 x3_1 (ji6)).f2, ((rd_T31 x3_1 (ji6)).f3) ++ ((rd_T31 l0 x4_1).f3)⟩ : S31)] : List (S31))) := ⟨_, rfl⟩
             replace H : (if y286.length + y289.length < 3518437208883 then (dactylref10_Joined.l0 k1 l0 (y286 ++ y289) (wrap64 (x4_1 + 1))) else (none)) = some r := by first | (rw [hy289]; with_reducible exact H) | (have H2_ := (Option.bind_some _ _).symm.trans H; rw [hy289]; with_reducible exact H2_) | (have H2_ := (Option.bind_some _ _).symm.trans H; with_reducible exact H2_) | with_reducible exact H | (rw [hy289]; exact H) | exact H
             have Ny289 := Aside0.mk hy289
             clear hy289
             by_cases c14 : y286.length + y289.length < 3518437208883
             ·rw [if_pos c14] at H
              have LMc14 := Aside0.mk c14
              clear c14
              obtain ⟨y292, hy292⟩ : ∃ y_ : List (S31), y_ = (y286 ++ y289) := ⟨_, rfl⟩
              replace H : (dactylref10_Joined.l0 k1 l0 y292 (wrap64 (x4_1 + 1))) = some r := by first | (rw [hy292]; with_reducible exact H) | (have H2_ := (Option.bind_some _ _).symm.trans H; rw [hy292]; with_reducible exact H2_) | (have H2_ := (Option.bind_some _ _).symm.trans H; with_reducible exact H2_) | with_reducible exact H | (rw [hy292]; exact H) | exact H
              have Ny292 := Aside0.mk hy292
              clear hy292
              have H' := Aside0.mk H
              clear H
              obtain ⟨Ao15, co15, eo15⟩ := Kd.R_slice HO_3.out
              subst eo15
              have p274 : 0 ≤ (x4_1 : Int) := of_decide_eq_true za
              have q274 : x4_1 < (l0.length : Int) := of_decide_eq_true za
              obtain ⟨ad274, e274, hx274_0, hx274_1, hx274_2, hx274_3⟩ := at_T31 HR0.out x4_1 p274 q274
              cases e274
              replace hx274_0 := (HB.out.cell (World.block_lt_of_cell? w _ hx274_0)).trans hx274_0
              replace hx274_1 := (HB.out.cell (World.block_lt_of_cell? w _ hx274_1)).trans hx274_1
              replace hx274_2 := (HB.out.cell (World.block_lt_of_cell? w _ hx274_2)).trans hx274_2
              replace hx274_3 := (HB.out.cell (World.block_lt_of_cell? w _ hx274_3)).trans hx274_3
              replace p274 := eq_true p274
              replace q274 := eq_true q274
              have p275 : 0 ≤ ((ji6) : Int) := of_decide_eq_true za
              have q275 : (ji6) < (x3_1.length : Int) := of_decide_eq_true za
              obtain ⟨ad275, e275, hx275_0, hx275_1, hx275_2, hx275_3⟩ := at_T31 (Kd.R_reads' HO_3.out).2.2 (ji6) p275 q275
              cases e275
              replace p275 := eq_true p275
              replace q275 := eq_true q275
              have p276 : 0 ≤ ((ji6) : Int) := of_decide_eq_true za
              have q276 : (ji6) < (x3_1.length : Int) := of_decide_eq_true za
              obtain ⟨ad276, e276, hx276_0, hx276_1, hx276_2, hx276_3⟩ := at_T31 (Kd.R_reads' HO_3.out).2.2 (ji6) p276 q276
              obtain rfl : ad275 = ad276 := (by injection e276)
              replace p276 := eq_true p276
              replace q276 := eq_true q276
              try go_wp2_with (first | ((with_reducible refine gate_dst (N := 6) rfl ?_); refine box_event ?hg (N := 6) ?hd (cs := #[.int .i64 0, .int .i64 0, .int .i64 0, .string (⟨#[]⟩ : ByteArray)]) (t := 31) ?hr ?_; (case hd => rfl); (case hg => rfl); (case hr => first | (go_simp; done) | (go_simp; rfl)); intro gb277 hg w16 hbox hb; have n0_ := Aside0.mk (Kd.R_below (Kd.R_elderB (zk HO_3.out) gb277 (Nat.le_of_eq hg.symm)) hb); have n1_ := Aside0.mk (below_step zb hb); have n2_ := Aside0.mk (hbox); have n3_ := Aside0.mk ((by rw [hg]; exact (below_size zb) : w.heap.size ≤ gb277)); have n4_ := Aside0.mk ((by rw [hg]; exact (below_size zb) : w.heap.size ≤ gb277)); clear HO_3; clear HB; have HO_3 := n0_; have HB := n1_; have BK277 := n2_; have GW277 := n3_; have GE277 := n4_; clear n0_ n1_ n2_ n3_ n4_; clear hb hbox hg; have hcz17_0 : w16.cell? ⟨gb277, 0, none⟩ = some (.int .i64 0) := (blk_cell BK277.out 0).trans rfl; have hcz17_1 : w16.cell? ⟨gb277, 1, none⟩ = some (.int .i64 0) := (blk_cell BK277.out 1).trans rfl; have hcz17_2 : w16.cell? ⟨gb277, 2, none⟩ = some (.int .i64 0) := (blk_cell BK277.out 2).trans rfl; have hcz17_3 : w16.cell? ⟨gb277, 3, none⟩ = some (.string (⟨#[]⟩ : ByteArray)) := (blk_cell BK277.out 3).trans rfl; have hfz17_0 := blk_frozen BK277.out 0; have hfz17_1 := blk_frozen BK277.out 1; have hfz17_2 := blk_frozen BK277.out 2; have hfz17_3 := blk_frozen BK277.out 3))
              have n0_ : Aside0 (Kd.R k31 31 ((((w16.setCell ⟨gb277, 0, none⟩ (.int .i64 ((rd_T31 x3_1 (ji6)).f0))).setCell ⟨gb277, 1, none⟩ (.int .i64 ((rd_T31 x3_1 (ji6)).f1))).setCell ⟨gb277, 2, none⟩ (.int .i64 ((rd_T31 x3_1 (ji6)).f2))).setCell ⟨gb277, 3, none⟩ (.string ((rd_T31 x3_1 (ji6)).f3))) w.heap.size (fun k_ => k_ ≠ gb277) (.slice (some ad275) x3_1.length co15) x3_1) := ⟨by (with_reducible repeat (first | apply Kd.R_alloc | apply Kd.R_drewN | apply Kd.R_drew)); exact Kd.R_mono (Kd.R_far (p := ⟨gb277, 3, none⟩) (Kd.R_far (p := ⟨gb277, 2, none⟩) (Kd.R_far (p := ⟨gb277, 1, none⟩) (Kd.R_far (p := ⟨gb277, 0, none⟩) (Kd.R_mono HO_3.out (fun k_ hk => (⟨hk, hk.2⟩ : _ ∧ k_ ≠ gb277))) (fun _ hk => hk.2) (.int .i64 ((rd_T31 x3_1 (ji6)).f0))) (fun _ hk => hk.2) (.int .i64 ((rd_T31 x3_1 (ji6)).f1))) (fun _ hk => hk.2) (.int .i64 ((rd_T31 x3_1 (ji6)).f2))) (fun _ hk => hk.2) (.string ((rd_T31 x3_1 (ji6)).f3))) (fun _ hk => hk.1.2)⟩
              have n1_ : Aside0 (((((w16.setCell ⟨gb277, 0, none⟩ (.int .i64 ((rd_T31 x3_1 (ji6)).f0))).setCell ⟨gb277, 1, none⟩ (.int .i64 ((rd_T31 x3_1 (ji6)).f1))).setCell ⟨gb277, 2, none⟩ (.int .i64 ((rd_T31 x3_1 (ji6)).f2))).setCell ⟨gb277, 3, none⟩ (.string ((rd_T31 x3_1 (ji6)).f3))).heap[gb277]? = some (.cells #[.int .i64 ((rd_T31 x3_1 (ji6)).f0), .int .i64 ((rd_T31 x3_1 (ji6)).f1), .int .i64 ((rd_T31 x3_1 (ji6)).f2), .string ((rd_T31 x3_1 (ji6)).f3)] 31 (0, 0))) := ⟨by (with_reducible repeat (first | refine blk_drewN ?_ _ | refine blk_drew ?_ | refine blk_alloc ?_ _)); refine blk_put (cs := #[.int .i64 ((rd_T31 x3_1 (ji6)).f0), .int .i64 ((rd_T31 x3_1 (ji6)).f1), .int .i64 ((rd_T31 x3_1 (ji6)).f2), .string (⟨#[]⟩ : ByteArray)]) ?_ 3 _ rfl; (with_reducible repeat (first | refine blk_drewN ?_ _ | refine blk_drew ?_ | refine blk_alloc ?_ _)); refine blk_put (cs := #[.int .i64 ((rd_T31 x3_1 (ji6)).f0), .int .i64 ((rd_T31 x3_1 (ji6)).f1), .int .i64 0, .string (⟨#[]⟩ : ByteArray)]) ?_ 2 _ rfl; (with_reducible repeat (first | refine blk_drewN ?_ _ | refine blk_drew ?_ | refine blk_alloc ?_ _)); refine blk_put (cs := #[.int .i64 ((rd_T31 x3_1 (ji6)).f0), .int .i64 0, .int .i64 0, .string (⟨#[]⟩ : ByteArray)]) ?_ 1 _ rfl; (with_reducible repeat (first | refine blk_drewN ?_ _ | refine blk_drew ?_ | refine blk_alloc ?_ _)); refine blk_put (cs := #[.int .i64 0, .int .i64 0, .int .i64 0, .string (⟨#[]⟩ : ByteArray)]) ?_ 0 _ rfl; (with_reducible repeat (first | refine blk_drewN ?_ _ | refine blk_drew ?_ | refine blk_alloc ?_ _)); exact BK277.out⟩
              have n2_ : Aside0 (Below w.heap.size w ((((w16.setCell ⟨gb277, 0, none⟩ (.int .i64 ((rd_T31 x3_1 (ji6)).f0))).setCell ⟨gb277, 1, none⟩ (.int .i64 ((rd_T31 x3_1 (ji6)).f1))).setCell ⟨gb277, 2, none⟩ (.int .i64 ((rd_T31 x3_1 (ji6)).f2))).setCell ⟨gb277, 3, none⟩ (.string ((rd_T31 x3_1 (ji6)).f3)))) := ⟨by repeat (first | (with_reducible first | exact HB.out | apply below_alloc | apply pw_below_drewN | apply below_drew1 | refine below_set ?_ GE277.out) | exact HB.out)⟩
              (try clear HO_3)
              (try clear BK277)
              (try clear HB)
              generalize ((((w16.setCell ⟨gb277, 0, none⟩ (.int .i64 ((rd_T31 x3_1 (ji6)).f0))).setCell ⟨gb277, 1, none⟩ (.int .i64 ((rd_T31 x3_1 (ji6)).f1))).setCell ⟨gb277, 2, none⟩ (.int .i64 ((rd_T31 x3_1 (ji6)).f2))).setCell ⟨gb277, 3, none⟩ (.string ((rd_T31 x3_1 (ji6)).f3))) = w18 at n0_ n1_ n2_ ⊢
              have HO_3 := n0_
              have BK277 := n1_
              have HB := n2_
              clear n0_ n1_ n2_
              have n0_ := Aside0.mk (Kd.R_drew HO_3.out)
              have n1_ := Aside0.mk (blk_drew BK277.out)
              have n2_ := Aside0.mk (below_drew1 HB.out)
              clear HO_3
              clear BK277
              clear HB
              have HO_3 := n0_
              have BK277 := n1_
              have HB := n2_
              clear n0_ n1_ n2_
              have p278 : 0 ≤ (x4_1 : Int) := of_decide_eq_true za
              have q278 : x4_1 < (l0.length : Int) := of_decide_eq_true za
              obtain ⟨ad278, e278, hx278_0, hx278_1, hx278_2, hx278_3⟩ := at_T31 HR0.out x4_1 p278 q278
              have hw278_3 := hx278_3
              have hw278_2 := hx278_2
              have hw278_1 := hx278_1
              have hw278_0 := hx278_0
              obtain rfl : ad274 = ad278 := (by injection e278)
              replace hx278_0 := (HB.out.cell (World.block_lt_of_cell? w _ hx278_0)).trans hx278_0
              replace hx278_1 := (HB.out.cell (World.block_lt_of_cell? w _ hx278_1)).trans hx278_1
              replace hx278_2 := (HB.out.cell (World.block_lt_of_cell? w _ hx278_2)).trans hx278_2
              replace hx278_3 := (HB.out.cell (World.block_lt_of_cell? w _ hx278_3)).trans hx278_3
              replace p278 := eq_true p278
              replace q278 := eq_true q278
              refine start_ (n := 10) (S := fun w' => w'.cell? ⟨gb277, 0, none⟩ = some (.int .i64 ((rd_T31 x3_1 (ji6)).f0)) ∧ w'.cell? ⟨gb277, 1, none⟩ = some (.int .i64 ((rd_T31 x3_1 (ji6)).f1)) ∧ w'.cell? ⟨gb277, 2, none⟩ = some (.int .i64 ((rd_T31 x3_1 (ji6)).f2)) ∧ w'.cell? ⟨gb277, 3, none⟩ = some (.string ((rd_T31 x3_1 (ji6)).f3)) ∧ w'.cell? (ad274.add ((x4_1).toNat * 4)) = some (.int .i64 ((rd_T31 l0 x4_1).f0)) ∧ w'.cell? ⟨(ad274.add ((x4_1).toNat * 4)).block, (ad274.add ((x4_1).toNat * 4)).off + 1, none⟩ = some (.int .i64 ((rd_T31 l0 x4_1).f1)) ∧ w'.cell? ⟨(ad274.add ((x4_1).toNat * 4)).block, (ad274.add ((x4_1).toNat * 4)).off + 2, none⟩ = some (.int .i64 ((rd_T31 l0 x4_1).f2)) ∧ w'.cell? ⟨(ad274.add ((x4_1).toNat * 4)).block, (ad274.add ((x4_1).toNat * 4)).off + 3, none⟩ = some (.string ((rd_T31 l0 x4_1).f3))) (ds := [9]) #[false, false, false, false, false, false, false, false, false, false] (by kernel_rfl) rfl rfl ⟨(blk_cell BK277.out 0).trans rfl, (blk_cell BK277.out 1).trans rfl, (blk_cell BK277.out 2).trans rfl, (blk_cell BK277.out 3).trans rfl, ((HB.out.cell (World.block_lt_of_cell? w _ hw278_0)).trans hw278_0), ((HB.out.cell (World.block_lt_of_cell? w _ hw278_1)).trans hw278_1), ((HB.out.cell (World.block_lt_of_cell? w _ hw278_2)).trans hw278_2), ((HB.out.cell (World.block_lt_of_cell? w _ hw278_3)).trans hw278_3)⟩ (fun hHeld => ?_); refine with_tabW dactylref10_Joined.tab8 dactylref10_Joined.bits8 (fun HT_ HW_ => ?_)
              generalize w18.drew = w19 at HO_3 BK277 HB hx278_0 hx278_1 hx278_2 hx278_3 hHeld ⊢
              refine pure_ (i := 0) (N := some 39) (v := ?_) (a' := ?_) #[true, false, false, false, false, false, false, false, false, false] rfl rfl (any_of HT_.out (by kernel_rfl)) (fun _ _ _ h => h) (Or.inl ⟨by rfl, ?_⟩) ?_ ?_
              rotate_left
              ·intro w'
               go_simp
               with_reducible rfl
              rotate_left
              ·simp only [Act.put, List.setIfInBounds_toArray, List.set_cons_zero, List.set_cons_succ, i64_w, i32_w]
               rfl
              refine pure_ (i := 2) (N := some 41) (v := ?_) (a' := ?_) #[true, false, true, false, false, false, false, false, false, false] rfl rfl (any_of HT_.out (by kernel_rfl)) (fun _ _ _ h => h) (Or.inl ⟨by rfl, ?_⟩) ?_ ?_
              rotate_left
              ·intro w'
               go_simp
               with_reducible rfl
              rotate_left
              ·simp only [Act.put, List.setIfInBounds_toArray, List.set_cons_zero, List.set_cons_succ, i64_w, i32_w]
               rfl
              refine pure_ (i := 3) (N := some 42) (v := ?_) (a' := ?_) #[true, false, true, true, false, false, false, false, false, false] rfl rfl (any_of HT_.out (by kernel_rfl)) (fun _ _ _ h => h) (Or.inl ⟨by rfl, ?_⟩) ?_ ?_
              rotate_left
              ·intro w'
               go_simp
               with_reducible rfl
              rotate_left
              ·simp only [Act.put, List.setIfInBounds_toArray, List.set_cons_zero, List.set_cons_succ, i64_w, i32_w]
               rfl
              refine pure_ (i := 4) (N := some 43) (v := ?_) (a' := ?_) #[true, false, true, true, true, false, false, false, false, false] rfl rfl (any_of HT_.out (by kernel_rfl)) (fun _ _ _ h => h) (Or.inl ⟨by rfl, ?_⟩) ?_ ?_
              rotate_left
              ·intro w'
               go_simp
               with_reducible rfl
              rotate_left
              ·simp only [Act.put, List.setIfInBounds_toArray, List.set_cons_zero, List.set_cons_succ, i64_w, i32_w]
               rfl
              refine pure_ (i := 5) (N := some 44) (v := ?_) (a' := ?_) #[true, false, true, true, true, true, false, false, false, false] rfl rfl (any_of HT_.out (by kernel_rfl)) (fun _ _ _ h => h) (Or.inl ⟨by rfl, ?_⟩) ?_ ?_
              rotate_left
              ·intro w'
               go_simp
               with_reducible rfl
              rotate_left
              ·simp only [Act.put, List.setIfInBounds_toArray, List.set_cons_zero, List.set_cons_succ, i64_w, i32_w]
               rfl
              refine take_ (i := 1) (N := some 40) (v := ?_) (a' := ?_) #[true, true, true, true, true, true, false, false, false, false] rfl rfl (take_ofW HT_.out HW_.out (by kernel_rfl)) (fun _ _ _ h => h) (Or.inl ⟨by rfl, ?_⟩) hHeld ?_ ?_
              rotate_left
              ·rintro w' ⟨s0, s1, s2, s3, s4, s5, s6, s7⟩
               go_simp
               with_reducible rfl
              rotate_left
              ·simp only [Act.put, List.setIfInBounds_toArray, List.set_cons_zero, List.set_cons_succ, i64_w, i32_w]
               rfl
              refine take_ (i := 6) (N := some 45) (v := ?_) (a' := ?_) #[true, true, true, true, true, true, true, false, false, false] rfl rfl (take_ofW HT_.out HW_.out (by kernel_rfl)) (fun _ _ _ h => h) (Or.inl ⟨by rfl, ?_⟩) hHeld ?_ ?_
              rotate_left
              ·rintro w' ⟨s0, s1, s2, s3, s4, s5, s6, s7⟩
               go_simp
               with_reducible rfl
              rotate_left
              ·simp only [Act.put, List.setIfInBounds_toArray, List.set_cons_zero, List.set_cons_succ, i64_w, i32_w]
               rfl
              refine pure_ (i := 7) (N := some 46) (v := ?_) (a' := ?_) #[true, true, true, true, true, true, true, true, false, false] rfl rfl (any_of HT_.out (by kernel_rfl)) (fun _ _ _ h => h) (Or.inl ⟨by rfl, ?_⟩) ?_ ?_
              rotate_left
              ·intro w'
               go_simp
               with_reducible rfl
              rotate_left
              ·simp only [Act.put, List.setIfInBounds_toArray, List.set_cons_zero, List.set_cons_succ, i64_w, i32_w]
               rfl
              refine pure_ (i := 8) (N := some 47) (v := ?_) (a' := ?_) #[true, true, true, true, true, true, true, true, true, false] rfl rfl (any_of HT_.out (by kernel_rfl)) (fun _ _ _ h => h) (Or.inl ⟨by rfl, ?_⟩) ?_ ?_
              rotate_left
              ·intro w'
               go_simp
               with_reducible rfl
              rotate_left
              ·simp only [Act.put, List.setIfInBounds_toArray, List.set_cons_zero, List.set_cons_succ, i64_w, i32_w]
               rfl
              refine last_ (i := 9) (N := none) #[true, true, true, true, true, true, true, true, true, true] rfl rfl (one_of HT_.out (by kernel_rfl)) (by decide) (fun K hK => ?_)
              have hs20 : w19.cell? ⟨gb277, 3, none⟩ = some (.string ((rd_T31 x3_1 (ji6)).f3)) := (blk_cell BK277.out 3).trans rfl
              have hfs20 := blk_frozen BK277.out 3
              refine skip_ (w1 := ?_) (by rfl) rfl ?_ ?_
              rotate_left
              ·go_simp
               rfl
              refine hK.out _ _ ?_
              clear hK K
              refine done_ (done_of HT_.out (by kernel_rfl)) ?_
              try go_wp2
              have n0_ : Aside0 (Kd.R k31 31 (w19.setCell ⟨gb277, 3, none⟩ (.string (((rd_T31 x3_1 (ji6)).f3) ++ ((rd_T31 l0 x4_1).f3)))) w.heap.size (fun k_ => k_ ≠ gb277) (.slice (some ad275) x3_1.length co15) x3_1) := ⟨by (with_reducible repeat (first | apply Kd.R_alloc | apply Kd.R_drewN | apply Kd.R_drew)); exact Kd.R_mono (Kd.R_far (p := ⟨gb277, 3, none⟩) (Kd.R_mono HO_3.out (fun k_ hk => (⟨hk, hk⟩ : _ ∧ k_ ≠ gb277))) (fun _ hk => hk.2) (.string (((rd_T31 x3_1 (ji6)).f3) ++ ((rd_T31 l0 x4_1).f3)))) (fun _ hk => hk.1)⟩
              have n1_ : Aside0 ((w19.setCell ⟨gb277, 3, none⟩ (.string (((rd_T31 x3_1 (ji6)).f3) ++ ((rd_T31 l0 x4_1).f3)))).heap[gb277]? = some (.cells #[.int .i64 ((rd_T31 x3_1 (ji6)).f0), .int .i64 ((rd_T31 x3_1 (ji6)).f1), .int .i64 ((rd_T31 x3_1 (ji6)).f2), .string (((rd_T31 x3_1 (ji6)).f3) ++ ((rd_T31 l0 x4_1).f3))] 31 (0, 0))) := ⟨by (with_reducible repeat (first | refine blk_drewN ?_ _ | refine blk_drew ?_ | refine blk_alloc ?_ _)); refine blk_put (cs := #[.int .i64 ((rd_T31 x3_1 (ji6)).f0), .int .i64 ((rd_T31 x3_1 (ji6)).f1), .int .i64 ((rd_T31 x3_1 (ji6)).f2), .string ((rd_T31 x3_1 (ji6)).f3)]) ?_ 3 _ rfl; (with_reducible repeat (first | refine blk_drewN ?_ _ | refine blk_drew ?_ | refine blk_alloc ?_ _)); exact BK277.out⟩
              have n2_ : Aside0 (Below w.heap.size w (w19.setCell ⟨gb277, 3, none⟩ (.string (((rd_T31 x3_1 (ji6)).f3) ++ ((rd_T31 l0 x4_1).f3))))) := ⟨by repeat (first | (with_reducible first | exact HB.out | apply below_alloc | apply pw_below_drewN | apply below_drew1 | refine below_set ?_ GE277.out) | exact HB.out)⟩
              (try clear HO_3)
              (try clear BK277)
              (try clear HB)
              generalize (w19.setCell ⟨gb277, 3, none⟩ (.string (((rd_T31 x3_1 (ji6)).f3) ++ ((rd_T31 l0 x4_1).f3)))) = w21 at n0_ n1_ n2_ ⊢
              have HO_3 := n0_
              have BK277 := n1_
              have HB := n2_
              clear n0_ n1_ n2_
              have n0_ := Aside0.mk (Kd.R_drew HO_3.out)
              have n1_ := Aside0.mk (blk_drew BK277.out)
              have n2_ := Aside0.mk (below_drew1 HB.out)
              clear HO_3
              clear BK277
              clear HB
              have HO_3 := n0_
              have BK277 := n1_
              have HB := n2_
              clear n0_ n1_ n2_
              have q23 : ((ji6) : Int) ≤ ((x3_1.length : Int) : Int) := of_decide_eq_true za
              obtain ⟨i023, hi023, _, hsz23, _⟩ := info_parts info31
              have hroom23 : x3_1.length ≤ co15 := (Kd.R_reads' HO_3.out).2.1
              have hC23 : Kd.C k31 _ (some ad275) x3_1.length x3_1 := (Kd.R_reads' HO_3.out).2.2
              have hcut23 := cut_to (P := Try.prog) 22 31 .i64 Try.underlying22 hi023 (some ad275) x3_1.length co15 (ji6) (of_decide_eq_true za) q23 hroom23
              have hr23 := Kd.C_take (m := ((ji6) : Int).toNat) hC23 (by omega)
              have hy23 : y282.length = ((ji6) : Int).toNat := (by rw [Ny282.out, List.length_take]; omega)
              rw [← Ny282.out] at hr23
              rw [← hy23] at hcut23
              have HR285 := Aside0.mk hr23
              have HC285 := Aside0.mk (show y282.length ≤ co15 from by omega)
              clear hr23 hC23 hroom23 hi023 hsz23
              have KY23 := Aside0.mk hy23
              clear hy23
              have KL23 := Aside0.mk (show ((ji6) : Int).toNat ≤ x3_1.length from by omega)
              replace q23 := eq_true q23
              refine start_ (n := 10) (S := fun w' => w'.cell? ⟨gb277, 0, none⟩ = some (.int .i64 ((rd_T31 x3_1 (ji6)).f0)) ∧ w'.cell? ⟨gb277, 1, none⟩ = some (.int .i64 ((rd_T31 x3_1 (ji6)).f1)) ∧ w'.cell? ⟨gb277, 2, none⟩ = some (.int .i64 ((rd_T31 x3_1 (ji6)).f2)) ∧ w'.cell? ⟨gb277, 3, none⟩ = some (.string (((rd_T31 x3_1 (ji6)).f3) ++ ((rd_T31 l0 x4_1).f3)))) (ds := []) #[false, false, false, false, false, false, false, false, false, false] (by kernel_rfl) rfl rfl ⟨(blk_cell BK277.out 0).trans rfl, (blk_cell BK277.out 1).trans rfl, (blk_cell BK277.out 2).trans rfl, (blk_cell BK277.out 3).trans rfl⟩ (fun hHeld => ?_); refine with_tabW dactylref10_Joined.tab9 dactylref10_Joined.bits9 (fun HT_ HW_ => ?_)
              generalize w21.drew = w22 at HO_3 BK277 HB HR285 hHeld ⊢
              refine pure_ (i := 1) (N := some 49) (v := ?_) (a' := ?_) #[false, true, false, false, false, false, false, false, false, false] rfl rfl (any_of HT_.out (by kernel_rfl)) (fun _ _ _ h => h) (Or.inl ⟨by rfl, ?_⟩) ?_ ?_
              rotate_left
              ·intro w'
               go_simp
               with_reducible rfl
              rotate_left
              ·simp only [Act.put, List.setIfInBounds_toArray, List.set_cons_zero, List.set_cons_succ, i64_w, i32_w]
               rfl
              refine pure_ (i := 2) (N := some 50) (v := ?_) (a' := ?_) #[false, true, true, false, false, false, false, false, false, false] rfl rfl (any_of HT_.out (by kernel_rfl)) (fun _ _ _ h => h) (Or.inl ⟨by rfl, ?_⟩) ?_ ?_
              rotate_left
              ·intro w'
               go_simp
               with_reducible rfl
              rotate_left
              ·simp only [Act.put, List.setIfInBounds_toArray, List.set_cons_zero, List.set_cons_succ, i64_w, i32_w]
               rfl
              refine pure_ (i := 3) (N := some 51) (v := ?_) (a' := ?_) #[false, true, true, true, false, false, false, false, false, false] rfl rfl (any_of HT_.out (by kernel_rfl)) (fun _ _ _ h => h) (Or.inl ⟨by rfl, ?_⟩) ?_ ?_
              rotate_left
              ·intro w'
               go_simp
               with_reducible rfl
              rotate_left
              ·simp only [Act.put, List.setIfInBounds_toArray, List.set_cons_zero, List.set_cons_succ, i64_w, i32_w]
               rfl
              refine pure_ (i := 4) (N := some 52) (v := ?_) (a' := ?_) #[false, true, true, true, true, false, false, false, false, false] rfl rfl (any_of HT_.out (by kernel_rfl)) (fun _ _ _ h => h) (Or.inl ⟨by rfl, ?_⟩) ?_ ?_
              rotate_left
              ·intro w'
               go_simp
               with_reducible rfl
              rotate_left
              ·simp only [Act.put, List.setIfInBounds_toArray, List.set_cons_zero, List.set_cons_succ, i64_w, i32_w]
               rfl
              refine take_ (i := 6) (N := some 54) (v := ?_) (a' := ?_) #[false, true, true, true, true, false, true, false, false, false] rfl rfl (take_ofW HT_.out HW_.out (by kernel_rfl)) (fun _ _ _ h => h) (Or.inl ⟨by rfl, ?_⟩) hHeld ?_ ?_
              rotate_left
              ·rintro w' ⟨s0, s1, s2, s3⟩
               go_simp
               with_reducible rfl
              rotate_left
              ·simp only [Act.put, List.setIfInBounds_toArray, List.set_cons_zero, List.set_cons_succ, i64_w, i32_w]
               rfl
              refine join_ (σ := Value × Value × Value) 2 #[true, true, true, true, true, true, true, true, false, false] (fun s_ => [(48, s_.1), (53, s_.2.1), (55, s_.2.2)]) (fun s_ w' => (w'.cell? ⟨gb277, 0, none⟩ = some (.int .i64 ((rd_T31 x3_1 (ji6)).f0)) ∧ w'.cell? ⟨gb277, 1, none⟩ = some (.int .i64 ((rd_T31 x3_1 (ji6)).f1)) ∧ w'.cell? ⟨gb277, 2, none⟩ = some (.int .i64 ((rd_T31 x3_1 (ji6)).f2)) ∧ w'.cell? ⟨gb277, 3, none⟩ = some (.string (((rd_T31 x3_1 (ji6)).f3) ++ ((rd_T31 l0 x4_1).f3)))) ∧ (Kd.R k31 31 w' w.heap.size (fun k_ => some k_ ≠ (s_.2.2 : Value).ownBlock ∧ some k_ ≠ (.slice (some ad275) x3_1.length co15 : Value).ownBlock ∧ k_ ≠ gb277) s_.2.1 y286) ∧ (Kd.R k31 31 w' w.heap.size (fun k_ => some k_ ≠ (s_.2.1 : Value).ownBlock ∧ some k_ ≠ (.slice (some ad275) x3_1.length co15 : Value).ownBlock ∧ k_ ≠ gb277) s_.2.2 y289) ∧ (Kd.R k31 31 w' w.heap.size (fun k_ => some k_ ≠ (s_.2.1 : Value).ownBlock ∧ some k_ ≠ (s_.2.2 : Value).ownBlock ∧ k_ ≠ gb277) (.slice (some ad275) x3_1.length co15) x3_1) ∧ (w'.heap[gb277]? = some (.cells #[.int .i64 ((rd_T31 x3_1 (ji6)).f0), .int .i64 ((rd_T31 x3_1 (ji6)).f1), .int .i64 ((rd_T31 x3_1 (ji6)).f2), .string (((rd_T31 x3_1 (ji6)).f3) ++ ((rd_T31 l0 x4_1).f3))] 31 (0, 0))) ∧ (Below w.heap.size w w')) ?_ ?_
              rotate_left
              ·intro hCont
               refine two_ (i := 0) (j := 7) (Ni := some 48) (Nj := some 55) #[true, true, true, true, true, false, true, false, false, false] #[false, true, true, true, true, false, true, true, false, false] rfl rfl rfl rfl (two_of HT_.out (by kernel_rfl)) (by decide) (by decide) (fun K hK => ?_) (fun K hK => ?_)
               ·skip
                refine Kd.R_lit_step k31 _ 31 ?hg (N := 48) ?hd (xs := ([] : List (S31))) (inner := []) (ok := fun _ => True) (okp := fun _ => True) ?hr ?hp (fun _ hk => hk) trivial (Below.refl _ _) (Nat.le_refl _) (by simp) ?_; (case hd => rfl); (case hg => rfl); (case hr => first | (go_simp; done) | (go_simp; rfl)); (case hp => exact (Reps.none _ _))
                intro v280 w24 ho25 hb hg_ hnew_
                clear hg_ hnew_
                (first | rw [← Ny279.out] at ho25 | (simp only [Int.reduceToNat] at ho25; rw [← Ny279.out] at ho25))
                have n0_ := Aside0.mk (Kd.R_elder' (zk HO_3.out) (Kd.R_base ho25) hb)
                have n1_ := Aside0.mk (Kd.R_lower (Kd.R_newB (Kd.R_new' ho25 (Kd.R_lt (zk HO_3.out))) (g := gb277) (o := .cells #[.int .i64 ((rd_T31 x3_1 (ji6)).f0), .int .i64 ((rd_T31 x3_1 (ji6)).f1), .int .i64 ((rd_T31 x3_1 (ji6)).f2), .string (((rd_T31 x3_1 (ji6)).f3) ++ ((rd_T31 l0 x4_1).f3))] 31 (0, 0)) (zj BK277.out)) (below_size (by repeat (first | (with_reducible first | exact HB.out | apply below_alloc | apply pw_below_drewN | apply below_drew1 | refine below_set ?_ GE277.out) | exact HB.out))))
                have n2_ := Aside0.mk (blk_below (g := gb277) (o := .cells #[.int .i64 ((rd_T31 x3_1 (ji6)).f0), .int .i64 ((rd_T31 x3_1 (ji6)).f1), .int .i64 ((rd_T31 x3_1 (ji6)).f2), .string (((rd_T31 x3_1 (ji6)).f3) ++ ((rd_T31 l0 x4_1).f3))] 31 (0, 0)) (zj BK277.out) hb)
                have n3_ := Aside0.mk (Kd.C_below (by repeat (first | (with_reducible exact HR285.out) | (with_reducible refine Kd.C_alloc ?_ _) | (with_reducible refine Kd.C_drewN ?_ _) | (with_reducible refine Kd.C_drew ?_) | exact HR285.out)) hb)
                have n4_ := Aside0.mk (below_step (by repeat (first | (with_reducible first | exact HB.out | apply below_alloc | apply pw_below_drewN | apply below_drew1 | refine below_set ?_ GE277.out) | exact HB.out)) hb)
                clear HO_3
                clear BK277
                clear HR285
                clear HB
                have HO_3 := n0_
                have HO281 := n1_
                have BK277 := n2_
                have HR285 := n3_
                have HB := n4_
                clear n0_ n1_ n2_ n3_ n4_
                clear hb ho25
                refine hK.out _ _ ⟨(blk_cell BK277.out 0).trans rfl, (blk_cell BK277.out 1).trans rfl, (blk_cell BK277.out 2).trans rfl, (blk_cell BK277.out 3).trans rfl⟩ (fun hHeld => ?_)
                clear hK K
                refine norm_ (a' := ?_) ?_ ?_
                rotate_left
                ·show Act.put _ (some 48) _ = _
                 simp only [Act.put, List.setIfInBounds_toArray, List.set_cons_zero, List.set_cons_succ, i64_w, i32_w]
                 rfl
                refine two_ (i := 5) (j := 7) (Ni := some 53) (Nj := some 55) #[true, true, true, true, true, true, true, false, false, false] #[true, true, true, true, true, false, true, true, false, false] rfl rfl rfl rfl (two_of HT_.out (by kernel_rfl)) (by decide) (by decide) (fun K hK => ?_) (fun K hK => ?_)
                ·skip
                 refine Kd.R_append_rows_step k31 (w0 := w) w.heap.size (by rfl) (.tmp 48) (.tmp 52) 22 31 (.agg #[(.int .i64 0), (.int .i64 0), (.int .i64 0), (.string ⟨#[]⟩)]) 40 rfl Try.underlying22 info31 rfl (by decide) (by omega) v280 y279 y282 _ _ _ (fun k_ => some k_ ≠ (.slice (some ad275) x3_1.length co15 : Value).ownBlock ∧ k_ ≠ gb277) (fun _ => False) rfl rfl ?aO ?aR (fun _ _ h => h) (fun _ h => h.elim) ?aF ?aB ?aS ?aL ?_
                 (case aR => repeat (first | exact (by repeat (first | (with_reducible exact HR285.out) | (with_reducible refine Kd.C_alloc ?_ _) | (with_reducible refine Kd.C_drewN ?_ _) | (with_reducible refine Kd.C_drew ?_) | exact HR285.out)) | (with_reducible refine Kd.C_alloc ?_ _) | (with_reducible refine Kd.C_drewN ?_ _) | (with_reducible refine Kd.C_drew ?_)))
                 (case aB => exact (by repeat (first | (with_reducible first | exact HB.out | apply below_alloc | apply pw_below_drewN | apply below_drew1 | refine below_set ?_ GE277.out) | exact HB.out)))
                 (case aF => exact (fun k_ hk => ⟨Kd.fresh' (Kd.R_lt (zk HO_3.out)) k_ hk, Kd.freshB (g := gb277) (o := .cells #[.int .i64 ((rd_T31 x3_1 (ji6)).f0), .int .i64 ((rd_T31 x3_1 (ji6)).f1), .int .i64 ((rd_T31 x3_1 (ji6)).f2), .string (((rd_T31 x3_1 (ji6)).f3) ++ ((rd_T31 l0 x4_1).f3))] 31 (0, 0)) (zj BK277.out) k_ hk⟩))
                 (case aO => exact (by (with_reducible repeat (first | apply Kd.R_alloc | apply Kd.R_drewN | apply Kd.R_drew)); exact Kd.R_mono HO281.out (fun _ hk => ⟨hk.1.2, hk.2⟩)))
                 (case aS => exact (below_size (by repeat (first | (with_reducible first | exact HB.out | apply below_alloc | apply pw_below_drewN | apply below_drew1 | refine below_set ?_ GE277.out) | exact HB.out))))
                 (case aL => have := LMc13.out; omega)
                 intro v287 w26 ho hb hg hat
                 rw [← Ny286.out] at ho
                 have n0_ := Aside0.mk (Kd.R_after (ok := (fun k_ => k_ ≠ gb277)) (zk HO_3.out) hg hat)
                 have n1_ := Aside0.mk (blk_grown (g := gb277) (o := .cells #[.int .i64 ((rd_T31 x3_1 (ji6)).f0), .int .i64 ((rd_T31 x3_1 (ji6)).f1), .int .i64 ((rd_T31 x3_1 (ji6)).f2), .string (((rd_T31 x3_1 (ji6)).f3) ++ ((rd_T31 l0 x4_1).f3))] 31 (0, 0)) (zj BK277.out) hg (Kd.R_away HO281.out (fun _ hk => hk.2)))
                 have n2_ := Aside0.mk (hb)
                 have n3_ := Aside0.mk ((show Kd.C k31 w26 (some ad275) y282.length y282 from by rw [Ny282.out]; exact Kd.C_take (m := ((ji6) : Int).toNat) ((Kd.R_reads' (Kd.R_after (ok := (fun k_ => k_ ≠ gb277)) (zk HO_3.out) hg hat)).2.2) KL23.out))
                 have n4_ := Aside0.mk (ho)
                 clear HO_3
                 clear BK277
                 clear HB
                 clear HR285
                 clear HO281
                 have HO_3 := n0_
                 have BK277 := n1_
                 have HB := n2_
                 have HR285 := n3_
                 have HO288 := n4_
                 clear n0_ n1_ n2_ n3_ n4_
                 clear ho hb hg hat
                 refine hK.out _ _ ⟨(blk_cell BK277.out 0).trans rfl, (blk_cell BK277.out 1).trans rfl, (blk_cell BK277.out 2).trans rfl, (blk_cell BK277.out 3).trans rfl⟩ (fun hHeld => ?_)
                 clear hK K
                 refine norm_ (a' := ?_) ?_ ?_
                 rotate_left
                 ·show Act.put _ (some 53) _ = _
                  simp only [Act.put, List.setIfInBounds_toArray, List.set_cons_zero, List.set_cons_succ, i64_w, i32_w]
                  rfl
                 refine one_ (i := 7) (N := some 55) #[true, true, true, true, true, true, true, true, false, false] rfl rfl (one_of HT_.out (by kernel_rfl)) (by decide) (fun K hK => ?_)
                 refine Kd.R_lit_step k31 _ 31 ?hg (N := 55) ?hd (xs := ([(⟨(rd_T31 x3_1 (ji6)).f0, (rd_T31 x3_1 (ji6)).f1, (rd_T31 x3_1 (ji6)).f2, ((rd_T31 x3_1 (ji6)).f3) ++ ((rd_T31 l0 x4_1).f3)⟩ : S31)] : List (S31))) (inner := [.int .i64 ((rd_T31 x3_1 (ji6)).f0), .int .i64 ((rd_T31 x3_1 (ji6)).f1), .int .i64 ((rd_T31 x3_1 (ji6)).f2), .string (((rd_T31 x3_1 (ji6)).f3) ++ ((rd_T31 l0 x4_1).f3))]) (ok := fun _ => True) (okp := fun _ => True) ?hr ?hp (fun _ hk => hk) trivial (Below.refl _ _) (Nat.le_refl _) (by simp) ?_; (case hd => rfl); (case hg => rfl); (case hr => first | (go_simp; done) | (go_simp; rfl)); (case hp => exact (Reps.c4 (show Kd.M k31 _ _ _ (⟨(rd_T31 x3_1 (ji6)).f0, (rd_T31 x3_1 (ji6)).f1, (rd_T31 x3_1 (ji6)).f2, ((rd_T31 x3_1 (ji6)).f3) ++ ((rd_T31 l0 x4_1).f3)⟩ : S31) [.int .i64 ((rd_T31 x3_1 (ji6)).f0), .int .i64 ((rd_T31 x3_1 (ji6)).f1), .int .i64 ((rd_T31 x3_1 (ji6)).f2), .string (((rd_T31 x3_1 (ji6)).f3) ++ ((rd_T31 l0 x4_1).f3))] from (k31_mkM _ _ _ (⟨(rd_T31 x3_1 (ji6)).f0, (rd_T31 x3_1 (ji6)).f1, (rd_T31 x3_1 (ji6)).f2, ((rd_T31 x3_1 (ji6)).f3) ++ ((rd_T31 l0 x4_1).f3)⟩ : S31) )) (Reps.none _ _)))
                 intro v290 w27 ho28 hb hg_ hnew_
                 clear hg_ hnew_
                 (first | rw [← Ny289.out] at ho28 | (simp only [Int.reduceToNat] at ho28; rw [← Ny289.out] at ho28))
                 have n0_ := Aside0.mk (Kd.R_elder' (zk HO_3.out) (Kd.R_base ho28) hb)
                 have n1_ := Aside0.mk (Kd.R_elder' (zk HO288.out) (Kd.R_base ho28) hb)
                 have n2_ := Aside0.mk (Kd.R_lower (Kd.R_newB (Kd.R_new' (Kd.R_new' ho28 (Kd.R_lt (zk HO_3.out))) (Kd.R_lt (zk HO288.out))) (g := gb277) (o := .cells #[.int .i64 ((rd_T31 x3_1 (ji6)).f0), .int .i64 ((rd_T31 x3_1 (ji6)).f1), .int .i64 ((rd_T31 x3_1 (ji6)).f2), .string (((rd_T31 x3_1 (ji6)).f3) ++ ((rd_T31 l0 x4_1).f3))] 31 (0, 0)) (zj BK277.out)) (below_size (by repeat (first | (with_reducible first | exact HB.out | apply below_alloc | apply pw_below_drewN | apply below_drew1 | refine below_set ?_ GE277.out) | exact HB.out))))
                 have n3_ := Aside0.mk (blk_below (g := gb277) (o := .cells #[.int .i64 ((rd_T31 x3_1 (ji6)).f0), .int .i64 ((rd_T31 x3_1 (ji6)).f1), .int .i64 ((rd_T31 x3_1 (ji6)).f2), .string (((rd_T31 x3_1 (ji6)).f3) ++ ((rd_T31 l0 x4_1).f3))] 31 (0, 0)) (zj BK277.out) hb)
                 have n4_ := Aside0.mk (Kd.C_below (by repeat (first | (with_reducible exact HR285.out) | (with_reducible refine Kd.C_alloc ?_ _) | (with_reducible refine Kd.C_drewN ?_ _) | (with_reducible refine Kd.C_drew ?_) | exact HR285.out)) hb)
                 have n5_ := Aside0.mk (below_step (by repeat (first | (with_reducible first | exact HB.out | apply below_alloc | apply pw_below_drewN | apply below_drew1 | refine below_set ?_ GE277.out) | exact HB.out)) hb)
                 clear HO_3
                 clear HO288
                 clear BK277
                 clear HR285
                 clear HB
                 have HO_3 := n0_
                 have HO288 := n1_
                 have HO291 := n2_
                 have BK277 := n3_
                 have HR285 := n4_
                 have HB := n5_
                 clear n0_ n1_ n2_ n3_ n4_ n5_
                 clear hb ho28
                 refine hK.out _ _ ⟨(blk_cell BK277.out 0).trans rfl, (blk_cell BK277.out 1).trans rfl, (blk_cell BK277.out 2).trans rfl, (blk_cell BK277.out 3).trans rfl⟩ (fun hHeld => ?_)
                 clear hK K
                 refine norm_ (a' := ?_) ?_ ?_
                 rotate_left
                 ·show Act.put _ (some 55) _ = _
                  simp only [Act.put, List.setIfInBounds_toArray, List.set_cons_zero, List.set_cons_succ, i64_w, i32_w]
                  rfl
                 exact norm_ (by simp only [putAll, Act.put, List.setIfInBounds_toArray, List.set_cons_zero, List.set_cons_succ]) (hCont (v280, v287, v290) _ ⟨hHeld, (by (with_reducible repeat (first | apply Kd.R_alloc | apply Kd.R_drewN | apply Kd.R_drew)); exact Kd.R_mono HO288.out (fun _ hk => ⟨hk.2, ⟨hk.1.1, hk.1.2⟩⟩)), (by (with_reducible repeat (first | apply Kd.R_alloc | apply Kd.R_drewN | apply Kd.R_drew)); exact Kd.R_mono HO291.out (fun _ hk => ⟨hk.1.2, ⟨hk.1.1.2, hk.2⟩⟩)), (by (with_reducible repeat (first | apply Kd.R_alloc | apply Kd.R_drewN | apply Kd.R_drew)); exact Kd.R_mono HO_3.out (fun _ hk => ⟨hk.1.2, ⟨hk.2, hk.1.1⟩⟩)), (zj BK277.out), (by repeat (first | (with_reducible first | exact HB.out | apply below_alloc | apply pw_below_drewN | apply below_drew1 | refine below_set ?_ GE277.out) | exact HB.out))⟩)
                ·skip
                 refine Kd.R_lit_step k31 _ 31 ?hg (N := 55) ?hd (xs := ([(⟨(rd_T31 x3_1 (ji6)).f0, (rd_T31 x3_1 (ji6)).f1, (rd_T31 x3_1 (ji6)).f2, ((rd_T31 x3_1 (ji6)).f3) ++ ((rd_T31 l0 x4_1).f3)⟩ : S31)] : List (S31))) (inner := [.int .i64 ((rd_T31 x3_1 (ji6)).f0), .int .i64 ((rd_T31 x3_1 (ji6)).f1), .int .i64 ((rd_T31 x3_1 (ji6)).f2), .string (((rd_T31 x3_1 (ji6)).f3) ++ ((rd_T31 l0 x4_1).f3))]) (ok := fun _ => True) (okp := fun _ => True) ?hr ?hp (fun _ hk => hk) trivial (Below.refl _ _) (Nat.le_refl _) (by simp) ?_; (case hd => rfl); (case hg => rfl); (case hr => first | (go_simp; done) | (go_simp; rfl)); (case hp => exact (Reps.c4 (show Kd.M k31 _ _ _ (⟨(rd_T31 x3_1 (ji6)).f0, (rd_T31 x3_1 (ji6)).f1, (rd_T31 x3_1 (ji6)).f2, ((rd_T31 x3_1 (ji6)).f3) ++ ((rd_T31 l0 x4_1).f3)⟩ : S31) [.int .i64 ((rd_T31 x3_1 (ji6)).f0), .int .i64 ((rd_T31 x3_1 (ji6)).f1), .int .i64 ((rd_T31 x3_1 (ji6)).f2), .string (((rd_T31 x3_1 (ji6)).f3) ++ ((rd_T31 l0 x4_1).f3))] from (k31_mkM _ _ _ (⟨(rd_T31 x3_1 (ji6)).f0, (rd_T31 x3_1 (ji6)).f1, (rd_T31 x3_1 (ji6)).f2, ((rd_T31 x3_1 (ji6)).f3) ++ ((rd_T31 l0 x4_1).f3)⟩ : S31) )) (Reps.none _ _)))
                 intro v290 w26 ho27 hb hg_ hnew_
                 clear hg_ hnew_
                 (first | rw [← Ny289.out] at ho27 | (simp only [Int.reduceToNat] at ho27; rw [← Ny289.out] at ho27))
                 have n0_ := Aside0.mk (Kd.R_elder' (zk HO_3.out) (Kd.R_base ho27) hb)
                 have n1_ := Aside0.mk (Kd.R_elder' (zk HO281.out) (Kd.R_base ho27) hb)
                 have n2_ := Aside0.mk (Kd.R_lower (Kd.R_newB (Kd.R_new' (Kd.R_new' ho27 (Kd.R_lt (zk HO_3.out))) (Kd.R_lt (zk HO281.out))) (g := gb277) (o := .cells #[.int .i64 ((rd_T31 x3_1 (ji6)).f0), .int .i64 ((rd_T31 x3_1 (ji6)).f1), .int .i64 ((rd_T31 x3_1 (ji6)).f2), .string (((rd_T31 x3_1 (ji6)).f3) ++ ((rd_T31 l0 x4_1).f3))] 31 (0, 0)) (zj BK277.out)) (below_size (by repeat (first | (with_reducible first | exact HB.out | apply below_alloc | apply pw_below_drewN | apply below_drew1 | refine below_set ?_ GE277.out) | exact HB.out))))
                 have n3_ := Aside0.mk (blk_below (g := gb277) (o := .cells #[.int .i64 ((rd_T31 x3_1 (ji6)).f0), .int .i64 ((rd_T31 x3_1 (ji6)).f1), .int .i64 ((rd_T31 x3_1 (ji6)).f2), .string (((rd_T31 x3_1 (ji6)).f3) ++ ((rd_T31 l0 x4_1).f3))] 31 (0, 0)) (zj BK277.out) hb)
                 have n4_ := Aside0.mk (Kd.C_below (by repeat (first | (with_reducible exact HR285.out) | (with_reducible refine Kd.C_alloc ?_ _) | (with_reducible refine Kd.C_drewN ?_ _) | (with_reducible refine Kd.C_drew ?_) | exact HR285.out)) hb)
                 have n5_ := Aside0.mk (below_step (by repeat (first | (with_reducible first | exact HB.out | apply below_alloc | apply pw_below_drewN | apply below_drew1 | refine below_set ?_ GE277.out) | exact HB.out)) hb)
                 clear HO_3
                 clear HO281
                 clear BK277
                 clear HR285
                 clear HB
                 have HO_3 := n0_
                 have HO281 := n1_
                 have HO291 := n2_
                 have BK277 := n3_
                 have HR285 := n4_
                 have HB := n5_
                 clear n0_ n1_ n2_ n3_ n4_ n5_
                 clear hb ho27
                 refine hK.out _ _ ⟨(blk_cell BK277.out 0).trans rfl, (blk_cell BK277.out 1).trans rfl, (blk_cell BK277.out 2).trans rfl, (blk_cell BK277.out 3).trans rfl⟩ (fun hHeld => ?_)
                 clear hK K
                 refine norm_ (a' := ?_) ?_ ?_
                 rotate_left
                 ·show Act.put _ (some 55) _ = _
                  simp only [Act.put, List.setIfInBounds_toArray, List.set_cons_zero, List.set_cons_succ, i64_w, i32_w]
                  rfl
                 refine one_ (i := 5) (N := some 53) #[true, true, true, true, true, true, true, true, false, false] rfl rfl (one_of HT_.out (by kernel_rfl)) (by decide) (fun K hK => ?_)
                 refine Kd.R_append_rows_step k31 (w0 := w) w.heap.size (by rfl) (.tmp 48) (.tmp 52) 22 31 (.agg #[(.int .i64 0), (.int .i64 0), (.int .i64 0), (.string ⟨#[]⟩)]) 40 rfl Try.underlying22 info31 rfl (by decide) (by omega) v280 y279 y282 _ _ _ (fun k_ => some k_ ≠ (.slice (some ad275) x3_1.length co15 : Value).ownBlock ∧ some k_ ≠ (v290 : Value).ownBlock ∧ k_ ≠ gb277) (fun _ => False) rfl rfl ?aO ?aR (fun _ _ h => h) (fun _ h => h.elim) ?aF ?aB ?aS ?aL ?_
                 (case aR => repeat (first | exact (by repeat (first | (with_reducible exact HR285.out) | (with_reducible refine Kd.C_alloc ?_ _) | (with_reducible refine Kd.C_drewN ?_ _) | (with_reducible refine Kd.C_drew ?_) | exact HR285.out)) | (with_reducible refine Kd.C_alloc ?_ _) | (with_reducible refine Kd.C_drewN ?_ _) | (with_reducible refine Kd.C_drew ?_)))
                 (case aB => exact (by repeat (first | (with_reducible first | exact HB.out | apply below_alloc | apply pw_below_drewN | apply below_drew1 | refine below_set ?_ GE277.out) | exact HB.out)))
                 (case aF => exact (fun k_ hk => ⟨Kd.fresh' (Kd.R_lt (zk HO_3.out)) k_ hk, Kd.fresh' (Kd.R_lt (zk HO291.out)) k_ hk, Kd.freshB (g := gb277) (o := .cells #[.int .i64 ((rd_T31 x3_1 (ji6)).f0), .int .i64 ((rd_T31 x3_1 (ji6)).f1), .int .i64 ((rd_T31 x3_1 (ji6)).f2), .string (((rd_T31 x3_1 (ji6)).f3) ++ ((rd_T31 l0 x4_1).f3))] 31 (0, 0)) (zj BK277.out) k_ hk⟩))
                 (case aO => exact (by (with_reducible repeat (first | apply Kd.R_alloc | apply Kd.R_drewN | apply Kd.R_drew)); exact Kd.R_mono HO281.out (fun _ hk => ⟨hk.1.1.2, ⟨hk.2, hk.1.2⟩⟩)))
                 (case aS => exact (below_size (by repeat (first | (with_reducible first | exact HB.out | apply below_alloc | apply pw_below_drewN | apply below_drew1 | refine below_set ?_ GE277.out) | exact HB.out))))
                 (case aL => have := LMc13.out; omega)
                 intro v287 w28 ho hb hg hat
                 rw [← Ny286.out] at ho
                 have n0_ := Aside0.mk (Kd.R_after (ok := (fun k_ => some k_ ≠ (v290 : Value).ownBlock ∧ k_ ≠ gb277)) (by (with_reducible repeat (first | apply Kd.R_alloc | apply Kd.R_drewN | apply Kd.R_drew)); exact Kd.R_mono HO_3.out (fun _ hk => ⟨⟨hk.2, hk.1.1⟩, hk.1.2⟩)) hg hat)
                 have n1_ := Aside0.mk (blk_grown (g := gb277) (o := .cells #[.int .i64 ((rd_T31 x3_1 (ji6)).f0), .int .i64 ((rd_T31 x3_1 (ji6)).f1), .int .i64 ((rd_T31 x3_1 (ji6)).f2), .string (((rd_T31 x3_1 (ji6)).f3) ++ ((rd_T31 l0 x4_1).f3))] 31 (0, 0)) (zj BK277.out) hg (Kd.R_away HO281.out (fun _ hk => hk.1.2)))
                 have n2_ := Aside0.mk (Kd.R_after (ok := (fun k_ => some k_ ≠ (.slice (some ad275) x3_1.length co15 : Value).ownBlock ∧ k_ ≠ gb277)) (by (with_reducible repeat (first | apply Kd.R_alloc | apply Kd.R_drewN | apply Kd.R_drew)); exact Kd.R_mono HO291.out (fun _ hk => ⟨⟨hk.1.1.2, hk.2⟩, hk.1.2⟩)) hg hat)
                 have n3_ := Aside0.mk (hb)
                 have n4_ := Aside0.mk ((show Kd.C k31 w28 (some ad275) y282.length y282 from by rw [Ny282.out]; exact Kd.C_take (m := ((ji6) : Int).toNat) ((Kd.R_reads' (Kd.R_after (ok := (fun k_ => some k_ ≠ (v290 : Value).ownBlock ∧ k_ ≠ gb277)) (by (with_reducible repeat (first | apply Kd.R_alloc | apply Kd.R_drewN | apply Kd.R_drew)); exact Kd.R_mono HO_3.out (fun _ hk => ⟨⟨hk.2, hk.1.1⟩, hk.1.2⟩)) hg hat)).2.2) KL23.out))
                 have n5_ := Aside0.mk (ho)
                 clear HO_3
                 clear BK277
                 clear HO291
                 clear HB
                 clear HR285
                 clear HO281
                 have HO_3 := n0_
                 have BK277 := n1_
                 have HO291 := n2_
                 have HB := n3_
                 have HR285 := n4_
                 have HO288 := n5_
                 clear n0_ n1_ n2_ n3_ n4_ n5_
                 clear ho hb hg hat
                 refine hK.out _ _ ⟨(blk_cell BK277.out 0).trans rfl, (blk_cell BK277.out 1).trans rfl, (blk_cell BK277.out 2).trans rfl, (blk_cell BK277.out 3).trans rfl⟩ (fun hHeld => ?_)
                 clear hK K
                 refine norm_ (a' := ?_) ?_ ?_
                 rotate_left
                 ·show Act.put _ (some 53) _ = _
                  simp only [Act.put, List.setIfInBounds_toArray, List.set_cons_zero, List.set_cons_succ, i64_w, i32_w]
                  rfl
                 exact norm_ (by simp only [putAll, Act.put, List.setIfInBounds_toArray, List.set_cons_zero, List.set_cons_succ]) (hCont (v280, v287, v290) _ ⟨hHeld, (by (with_reducible repeat (first | apply Kd.R_alloc | apply Kd.R_drewN | apply Kd.R_drew)); exact Kd.R_mono HO288.out (fun _ hk => ⟨hk.2.1, ⟨hk.1, hk.2.2⟩⟩)), (by (with_reducible repeat (first | apply Kd.R_alloc | apply Kd.R_drewN | apply Kd.R_drew)); exact Kd.R_mono HO291.out (fun _ hk => ⟨hk.2, ⟨hk.1.1, hk.1.2⟩⟩)), (by (with_reducible repeat (first | apply Kd.R_alloc | apply Kd.R_drewN | apply Kd.R_drew)); exact Kd.R_mono HO_3.out (fun _ hk => ⟨hk.2, ⟨hk.1.1, hk.1.2⟩⟩)), (zj BK277.out), (by repeat (first | (with_reducible first | exact HB.out | apply below_alloc | apply pw_below_drewN | apply below_drew1 | refine below_set ?_ GE277.out) | exact HB.out))⟩)
               ·skip
                refine Kd.R_lit_step k31 _ 31 ?hg (N := 55) ?hd (xs := ([(⟨(rd_T31 x3_1 (ji6)).f0, (rd_T31 x3_1 (ji6)).f1, (rd_T31 x3_1 (ji6)).f2, ((rd_T31 x3_1 (ji6)).f3) ++ ((rd_T31 l0 x4_1).f3)⟩ : S31)] : List (S31))) (inner := [.int .i64 ((rd_T31 x3_1 (ji6)).f0), .int .i64 ((rd_T31 x3_1 (ji6)).f1), .int .i64 ((rd_T31 x3_1 (ji6)).f2), .string (((rd_T31 x3_1 (ji6)).f3) ++ ((rd_T31 l0 x4_1).f3))]) (ok := fun _ => True) (okp := fun _ => True) ?hr ?hp (fun _ hk => hk) trivial (Below.refl _ _) (Nat.le_refl _) (by simp) ?_; (case hd => rfl); (case hg => rfl); (case hr => first | (go_simp; done) | (go_simp; rfl)); (case hp => exact (Reps.c4 (show Kd.M k31 _ _ _ (⟨(rd_T31 x3_1 (ji6)).f0, (rd_T31 x3_1 (ji6)).f1, (rd_T31 x3_1 (ji6)).f2, ((rd_T31 x3_1 (ji6)).f3) ++ ((rd_T31 l0 x4_1).f3)⟩ : S31) [.int .i64 ((rd_T31 x3_1 (ji6)).f0), .int .i64 ((rd_T31 x3_1 (ji6)).f1), .int .i64 ((rd_T31 x3_1 (ji6)).f2), .string (((rd_T31 x3_1 (ji6)).f3) ++ ((rd_T31 l0 x4_1).f3))] from (k31_mkM _ _ _ (⟨(rd_T31 x3_1 (ji6)).f0, (rd_T31 x3_1 (ji6)).f1, (rd_T31 x3_1 (ji6)).f2, ((rd_T31 x3_1 (ji6)).f3) ++ ((rd_T31 l0 x4_1).f3)⟩ : S31) )) (Reps.none _ _)))
                intro v290 w24 ho25 hb hg_ hnew_
                clear hg_ hnew_
                (first | rw [← Ny289.out] at ho25 | (simp only [Int.reduceToNat] at ho25; rw [← Ny289.out] at ho25))
                have n0_ := Aside0.mk (Kd.R_elder' (zk HO_3.out) (Kd.R_base ho25) hb)
                have n1_ := Aside0.mk (Kd.R_lower (Kd.R_newB (Kd.R_new' ho25 (Kd.R_lt (zk HO_3.out))) (g := gb277) (o := .cells #[.int .i64 ((rd_T31 x3_1 (ji6)).f0), .int .i64 ((rd_T31 x3_1 (ji6)).f1), .int .i64 ((rd_T31 x3_1 (ji6)).f2), .string (((rd_T31 x3_1 (ji6)).f3) ++ ((rd_T31 l0 x4_1).f3))] 31 (0, 0)) (zj BK277.out)) (below_size (by repeat (first | (with_reducible first | exact HB.out | apply below_alloc | apply pw_below_drewN | apply below_drew1 | refine below_set ?_ GE277.out) | exact HB.out))))
                have n2_ := Aside0.mk (blk_below (g := gb277) (o := .cells #[.int .i64 ((rd_T31 x3_1 (ji6)).f0), .int .i64 ((rd_T31 x3_1 (ji6)).f1), .int .i64 ((rd_T31 x3_1 (ji6)).f2), .string (((rd_T31 x3_1 (ji6)).f3) ++ ((rd_T31 l0 x4_1).f3))] 31 (0, 0)) (zj BK277.out) hb)
                have n3_ := Aside0.mk (Kd.C_below (by repeat (first | (with_reducible exact HR285.out) | (with_reducible refine Kd.C_alloc ?_ _) | (with_reducible refine Kd.C_drewN ?_ _) | (with_reducible refine Kd.C_drew ?_) | exact HR285.out)) hb)
                have n4_ := Aside0.mk (below_step (by repeat (first | (with_reducible first | exact HB.out | apply below_alloc | apply pw_below_drewN | apply below_drew1 | refine below_set ?_ GE277.out) | exact HB.out)) hb)
                clear HO_3
                clear BK277
                clear HR285
                clear HB
                have HO_3 := n0_
                have HO291 := n1_
                have BK277 := n2_
                have HR285 := n3_
                have HB := n4_
                clear n0_ n1_ n2_ n3_ n4_
                clear hb ho25
                refine hK.out _ _ ⟨(blk_cell BK277.out 0).trans rfl, (blk_cell BK277.out 1).trans rfl, (blk_cell BK277.out 2).trans rfl, (blk_cell BK277.out 3).trans rfl⟩ (fun hHeld => ?_)
                clear hK K
                refine norm_ (a' := ?_) ?_ ?_
                rotate_left
                ·show Act.put _ (some 55) _ = _
                 simp only [Act.put, List.setIfInBounds_toArray, List.set_cons_zero, List.set_cons_succ, i64_w, i32_w]
                 rfl
                refine one_ (i := 0) (N := some 48) #[true, true, true, true, true, false, true, true, false, false] rfl rfl (one_of HT_.out (by kernel_rfl)) (by decide) (fun K hK => ?_)
                refine Kd.R_lit_step k31 _ 31 ?hg (N := 48) ?hd (xs := ([] : List (S31))) (inner := []) (ok := fun _ => True) (okp := fun _ => True) ?hr ?hp (fun _ hk => hk) trivial (Below.refl _ _) (Nat.le_refl _) (by simp) ?_; (case hd => rfl); (case hg => rfl); (case hr => first | (go_simp; done) | (go_simp; rfl)); (case hp => exact (Reps.none _ _))
                intro v280 w26 ho27 hb hg_ hnew_
                clear hg_ hnew_
                (first | rw [← Ny279.out] at ho27 | (simp only [Int.reduceToNat] at ho27; rw [← Ny279.out] at ho27))
                have n0_ := Aside0.mk (Kd.R_elder' (zk HO_3.out) (Kd.R_base ho27) hb)
                have n1_ := Aside0.mk (Kd.R_elder' (zk HO291.out) (Kd.R_base ho27) hb)
                have n2_ := Aside0.mk (Kd.R_lower (Kd.R_newB (Kd.R_new' (Kd.R_new' ho27 (Kd.R_lt (zk HO_3.out))) (Kd.R_lt (zk HO291.out))) (g := gb277) (o := .cells #[.int .i64 ((rd_T31 x3_1 (ji6)).f0), .int .i64 ((rd_T31 x3_1 (ji6)).f1), .int .i64 ((rd_T31 x3_1 (ji6)).f2), .string (((rd_T31 x3_1 (ji6)).f3) ++ ((rd_T31 l0 x4_1).f3))] 31 (0, 0)) (zj BK277.out)) (below_size (by repeat (first | (with_reducible first | exact HB.out | apply below_alloc | apply pw_below_drewN | apply below_drew1 | refine below_set ?_ GE277.out) | exact HB.out))))
                have n3_ := Aside0.mk (blk_below (g := gb277) (o := .cells #[.int .i64 ((rd_T31 x3_1 (ji6)).f0), .int .i64 ((rd_T31 x3_1 (ji6)).f1), .int .i64 ((rd_T31 x3_1 (ji6)).f2), .string (((rd_T31 x3_1 (ji6)).f3) ++ ((rd_T31 l0 x4_1).f3))] 31 (0, 0)) (zj BK277.out) hb)
                have n4_ := Aside0.mk (Kd.C_below (by repeat (first | (with_reducible exact HR285.out) | (with_reducible refine Kd.C_alloc ?_ _) | (with_reducible refine Kd.C_drewN ?_ _) | (with_reducible refine Kd.C_drew ?_) | exact HR285.out)) hb)
                have n5_ := Aside0.mk (below_step (by repeat (first | (with_reducible first | exact HB.out | apply below_alloc | apply pw_below_drewN | apply below_drew1 | refine below_set ?_ GE277.out) | exact HB.out)) hb)
                clear HO_3
                clear HO291
                clear BK277
                clear HR285
                clear HB
                have HO_3 := n0_
                have HO291 := n1_
                have HO281 := n2_
                have BK277 := n3_
                have HR285 := n4_
                have HB := n5_
                clear n0_ n1_ n2_ n3_ n4_ n5_
                clear hb ho27
                refine hK.out _ _ ⟨(blk_cell BK277.out 0).trans rfl, (blk_cell BK277.out 1).trans rfl, (blk_cell BK277.out 2).trans rfl, (blk_cell BK277.out 3).trans rfl⟩ (fun hHeld => ?_)
                clear hK K
                refine norm_ (a' := ?_) ?_ ?_
                rotate_left
                ·show Act.put _ (some 48) _ = _
                 simp only [Act.put, List.setIfInBounds_toArray, List.set_cons_zero, List.set_cons_succ, i64_w, i32_w]
                 rfl
                refine one_ (i := 5) (N := some 53) #[true, true, true, true, true, true, true, true, false, false] rfl rfl (one_of HT_.out (by kernel_rfl)) (by decide) (fun K hK => ?_)
                refine Kd.R_append_rows_step k31 (w0 := w) w.heap.size (by rfl) (.tmp 48) (.tmp 52) 22 31 (.agg #[(.int .i64 0), (.int .i64 0), (.int .i64 0), (.string ⟨#[]⟩)]) 40 rfl Try.underlying22 info31 rfl (by decide) (by omega) v280 y279 y282 _ _ _ (fun k_ => some k_ ≠ (.slice (some ad275) x3_1.length co15 : Value).ownBlock ∧ some k_ ≠ (v290 : Value).ownBlock ∧ k_ ≠ gb277) (fun _ => False) rfl rfl ?aO ?aR (fun _ _ h => h) (fun _ h => h.elim) ?aF ?aB ?aS ?aL ?_
                (case aR => repeat (first | exact (by repeat (first | (with_reducible exact HR285.out) | (with_reducible refine Kd.C_alloc ?_ _) | (with_reducible refine Kd.C_drewN ?_ _) | (with_reducible refine Kd.C_drew ?_) | exact HR285.out)) | (with_reducible refine Kd.C_alloc ?_ _) | (with_reducible refine Kd.C_drewN ?_ _) | (with_reducible refine Kd.C_drew ?_)))
                (case aB => exact (by repeat (first | (with_reducible first | exact HB.out | apply below_alloc | apply pw_below_drewN | apply below_drew1 | refine below_set ?_ GE277.out) | exact HB.out)))
                (case aF => exact (fun k_ hk => ⟨Kd.fresh' (Kd.R_lt (zk HO_3.out)) k_ hk, Kd.fresh' (Kd.R_lt (zk HO291.out)) k_ hk, Kd.freshB (g := gb277) (o := .cells #[.int .i64 ((rd_T31 x3_1 (ji6)).f0), .int .i64 ((rd_T31 x3_1 (ji6)).f1), .int .i64 ((rd_T31 x3_1 (ji6)).f2), .string (((rd_T31 x3_1 (ji6)).f3) ++ ((rd_T31 l0 x4_1).f3))] 31 (0, 0)) (zj BK277.out) k_ hk⟩))
                (case aO => exact (by (with_reducible repeat (first | apply Kd.R_alloc | apply Kd.R_drewN | apply Kd.R_drew)); exact Kd.R_mono HO281.out (fun _ hk => ⟨hk.1.1.2, ⟨hk.1.2, hk.2⟩⟩)))
                (case aS => exact (below_size (by repeat (first | (with_reducible first | exact HB.out | apply below_alloc | apply pw_below_drewN | apply below_drew1 | refine below_set ?_ GE277.out) | exact HB.out))))
                (case aL => have := LMc13.out; omega)
                intro v287 w28 ho hb hg hat
                rw [← Ny286.out] at ho
                have n0_ := Aside0.mk (Kd.R_after (ok := (fun k_ => some k_ ≠ (v290 : Value).ownBlock ∧ k_ ≠ gb277)) (by (with_reducible repeat (first | apply Kd.R_alloc | apply Kd.R_drewN | apply Kd.R_drew)); exact Kd.R_mono HO_3.out (fun _ hk => ⟨⟨hk.1.2, hk.1.1⟩, hk.2⟩)) hg hat)
                have n1_ := Aside0.mk (blk_grown (g := gb277) (o := .cells #[.int .i64 ((rd_T31 x3_1 (ji6)).f0), .int .i64 ((rd_T31 x3_1 (ji6)).f1), .int .i64 ((rd_T31 x3_1 (ji6)).f2), .string (((rd_T31 x3_1 (ji6)).f3) ++ ((rd_T31 l0 x4_1).f3))] 31 (0, 0)) (zj BK277.out) hg (Kd.R_away HO281.out (fun _ hk => hk.2)))
                have n2_ := Aside0.mk (Kd.R_after (ok := (fun k_ => some k_ ≠ (.slice (some ad275) x3_1.length co15 : Value).ownBlock ∧ k_ ≠ gb277)) (by (with_reducible repeat (first | apply Kd.R_alloc | apply Kd.R_drewN | apply Kd.R_drew)); exact Kd.R_mono HO291.out (fun _ hk => ⟨⟨hk.1.1.2, hk.1.2⟩, hk.2⟩)) hg hat)
                have n3_ := Aside0.mk (hb)
                have n4_ := Aside0.mk ((show Kd.C k31 w28 (some ad275) y282.length y282 from by rw [Ny282.out]; exact Kd.C_take (m := ((ji6) : Int).toNat) ((Kd.R_reads' (Kd.R_after (ok := (fun k_ => some k_ ≠ (v290 : Value).ownBlock ∧ k_ ≠ gb277)) (by (with_reducible repeat (first | apply Kd.R_alloc | apply Kd.R_drewN | apply Kd.R_drew)); exact Kd.R_mono HO_3.out (fun _ hk => ⟨⟨hk.1.2, hk.1.1⟩, hk.2⟩)) hg hat)).2.2) KL23.out))
                have n5_ := Aside0.mk (ho)
                clear HO_3
                clear BK277
                clear HO291
                clear HB
                clear HR285
                clear HO281
                have HO_3 := n0_
                have BK277 := n1_
                have HO291 := n2_
                have HB := n3_
                have HR285 := n4_
                have HO288 := n5_
                clear n0_ n1_ n2_ n3_ n4_ n5_
                clear ho hb hg hat
                refine hK.out _ _ ⟨(blk_cell BK277.out 0).trans rfl, (blk_cell BK277.out 1).trans rfl, (blk_cell BK277.out 2).trans rfl, (blk_cell BK277.out 3).trans rfl⟩ (fun hHeld => ?_)
                clear hK K
                refine norm_ (a' := ?_) ?_ ?_
                rotate_left
                ·show Act.put _ (some 53) _ = _
                 simp only [Act.put, List.setIfInBounds_toArray, List.set_cons_zero, List.set_cons_succ, i64_w, i32_w]
                 rfl
                exact norm_ (by simp only [putAll, Act.put, List.setIfInBounds_toArray, List.set_cons_zero, List.set_cons_succ]) (hCont (v280, v287, v290) _ ⟨hHeld, (by (with_reducible repeat (first | apply Kd.R_alloc | apply Kd.R_drewN | apply Kd.R_drew)); exact Kd.R_mono HO288.out (fun _ hk => ⟨hk.2.1, ⟨hk.1, hk.2.2⟩⟩)), (by (with_reducible repeat (first | apply Kd.R_alloc | apply Kd.R_drewN | apply Kd.R_drew)); exact Kd.R_mono HO291.out (fun _ hk => ⟨hk.2, ⟨hk.1.1, hk.1.2⟩⟩)), (by (with_reducible repeat (first | apply Kd.R_alloc | apply Kd.R_drewN | apply Kd.R_drew)); exact Kd.R_mono HO_3.out (fun _ hk => ⟨hk.2, ⟨hk.1.1, hk.1.2⟩⟩)), (zj BK277.out), (by repeat (first | (with_reducible first | exact HB.out | apply below_alloc | apply pw_below_drewN | apply below_drew1 | refine below_set ?_ GE277.out) | exact HB.out))⟩)
              rintro ⟨v280, v287, v290⟩ w29 ⟨hS_, h0_, h1_, h2_, h3_, h4_⟩
              have n0_ : Aside0 (Kd.R k31 31 w29 w.heap.size (fun k_ => some k_ ≠ (v290 : Value).ownBlock ∧ some k_ ≠ (.slice (some ad275) x3_1.length co15 : Value).ownBlock ∧ k_ ≠ gb277) v287 y286) := ⟨h0_⟩
              have n1_ : Aside0 (Kd.R k31 31 w29 w.heap.size (fun k_ => some k_ ≠ (v287 : Value).ownBlock ∧ some k_ ≠ (.slice (some ad275) x3_1.length co15 : Value).ownBlock ∧ k_ ≠ gb277) v290 y289) := ⟨h1_⟩
              have n2_ : Aside0 (Kd.R k31 31 w29 w.heap.size (fun k_ => some k_ ≠ (v287 : Value).ownBlock ∧ some k_ ≠ (v290 : Value).ownBlock ∧ k_ ≠ gb277) (.slice (some ad275) x3_1.length co15) x3_1) := ⟨h2_⟩
              have n3_ : Aside0 (w29.heap[gb277]? = some (.cells #[.int .i64 ((rd_T31 x3_1 (ji6)).f0), .int .i64 ((rd_T31 x3_1 (ji6)).f1), .int .i64 ((rd_T31 x3_1 (ji6)).f2), .string (((rd_T31 x3_1 (ji6)).f3) ++ ((rd_T31 l0 x4_1).f3))] 31 (0, 0))) := ⟨h3_⟩
              have n4_ : Aside0 (Below w.heap.size w w29) := ⟨h4_⟩
              clear HO_3
              clear BK277
              clear HB
              clear h0_ h1_ h2_ h3_ h4_
              have HO288 := n0_
              have HO291 := n1_
              have HO_3 := n2_
              have BK277 := n3_
              have HB := n4_
              clear n0_ n1_ n2_ n3_ n4_
              have hHeld : w29.cell? ⟨gb277, 0, none⟩ = some (.int .i64 ((rd_T31 x3_1 (ji6)).f0)) ∧ w29.cell? ⟨gb277, 1, none⟩ = some (.int .i64 ((rd_T31 x3_1 (ji6)).f1)) ∧ w29.cell? ⟨gb277, 2, none⟩ = some (.int .i64 ((rd_T31 x3_1 (ji6)).f2)) ∧ w29.cell? ⟨gb277, 3, none⟩ = some (.string (((rd_T31 x3_1 (ji6)).f3) ++ ((rd_T31 l0 x4_1).f3))) := hS_
              obtain ⟨Ao31, co31, eo31⟩ := Kd.R_slice HO291.out
              (first | subst eo31 | (injection eo31 with f1_ f2_ f3_; have f4_ := f1_.symm; have f5_ := f3_.symm; clear f1_ f2_ f3_; subst f4_; subst f5_))
              refine norm_ (a' := ?_) ?_ ?_
              rotate_left
              ·simp only [putAll, Act.put, List.setIfInBounds_toArray, List.set_cons_zero, List.set_cons_succ]
               rfl
              refine one_ (i := 8) (N := some 56) #[true, true, true, true, true, true, true, true, true, false] rfl rfl (one_of HT_.out (by kernel_rfl)) (by decide) (fun K hK => ?_)
              refine Kd.R_append_rows_step k31 (w0 := w) w.heap.size (by rfl) (.tmp 53) (.tmp 55) 22 31 (.agg #[(.int .i64 0), (.int .i64 0), (.int .i64 0), (.string ⟨#[]⟩)]) 40 rfl Try.underlying22 info31 rfl (by decide) (by omega) v287 y286 y289 _ _ _ (fun k_ => some k_ ≠ (.slice (some ad275) x3_1.length co15 : Value).ownBlock ∧ some k_ ≠ (.slice Ao31 y289.length co31 : Value).ownBlock ∧ k_ ≠ gb277) (fun _ => False) rfl rfl ?aO ?aR (fun _ _ h => h) (fun _ h => h.elim) ?aF ?aB ?aS ?aL ?_
              (case aR => repeat (first | exact (Kd.R_reads' HO291.out).2.2 | (with_reducible refine Kd.C_alloc ?_ _) | (with_reducible refine Kd.C_drewN ?_ _) | (with_reducible refine Kd.C_drew ?_)))
              (case aB => exact (by repeat (first | (with_reducible first | exact HB.out | apply below_alloc | apply pw_below_drewN | apply below_drew1 | refine below_set ?_ GE277.out) | exact HB.out)))
              (case aF => exact (fun k_ hk => ⟨Kd.fresh' (Kd.R_lt (zk HO_3.out)) k_ hk, Kd.fresh' (Kd.R_lt (zk HO291.out)) k_ hk, Kd.freshB (g := gb277) (o := .cells #[.int .i64 ((rd_T31 x3_1 (ji6)).f0), .int .i64 ((rd_T31 x3_1 (ji6)).f1), .int .i64 ((rd_T31 x3_1 (ji6)).f2), .string (((rd_T31 x3_1 (ji6)).f3) ++ ((rd_T31 l0 x4_1).f3))] 31 (0, 0)) (zj BK277.out) k_ hk⟩))
              (case aO => exact (by (with_reducible repeat (first | apply Kd.R_alloc | apply Kd.R_drewN | apply Kd.R_drew)); exact Kd.R_mono HO288.out (fun _ hk => ⟨hk.2.1, ⟨hk.1, hk.2.2⟩⟩)))
              (case aS => exact (below_size (by repeat (first | (with_reducible first | exact HB.out | apply below_alloc | apply pw_below_drewN | apply below_drew1 | refine below_set ?_ GE277.out) | exact HB.out))))
              (case aL => have := LMc14.out; omega)
              intro v293 w30 ho hb hg hat
              rw [← Ny292.out] at ho
              have n0_ := Aside0.mk (Kd.R_after (ok := (fun k_ => some k_ ≠ (.slice Ao31 y289.length co31 : Value).ownBlock ∧ k_ ≠ gb277)) (by (with_reducible repeat (first | apply Kd.R_alloc | apply Kd.R_drewN | apply Kd.R_drew)); exact Kd.R_mono HO_3.out (fun _ hk => ⟨⟨hk.2.1, hk.2.2⟩, hk.1⟩)) hg hat)
              have n1_ := Aside0.mk (blk_grown (g := gb277) (o := .cells #[.int .i64 ((rd_T31 x3_1 (ji6)).f0), .int .i64 ((rd_T31 x3_1 (ji6)).f1), .int .i64 ((rd_T31 x3_1 (ji6)).f2), .string (((rd_T31 x3_1 (ji6)).f3) ++ ((rd_T31 l0 x4_1).f3))] 31 (0, 0)) (zj BK277.out) hg (Kd.R_away HO288.out (fun _ hk => hk.2.2)))
              have n2_ := Aside0.mk (Kd.R_after (ok := (fun k_ => some k_ ≠ (.slice (some ad275) x3_1.length co15 : Value).ownBlock ∧ k_ ≠ gb277)) (by (with_reducible repeat (first | apply Kd.R_alloc | apply Kd.R_drewN | apply Kd.R_drew)); exact Kd.R_mono HO291.out (fun _ hk => ⟨⟨hk.2.1, hk.2.2⟩, hk.1⟩)) hg hat)
              have n3_ := Aside0.mk (hb)
              have n4_ := Aside0.mk (ho)
              clear HO_3
              clear BK277
              clear HO291
              clear HB
              clear HO288
              have HO_3 := n0_
              have BK277 := n1_
              have HO291 := n2_
              have HB := n3_
              have HO294 := n4_
              clear n0_ n1_ n2_ n3_ n4_
              clear ho hb hg hat
              refine hK.out _ _ ⟨(blk_cell BK277.out 0).trans rfl, (blk_cell BK277.out 1).trans rfl, (blk_cell BK277.out 2).trans rfl, (blk_cell BK277.out 3).trans rfl⟩ (fun hHeld => ?_)
              clear hK K
              refine norm_ (a' := ?_) ?_ ?_
              rotate_left
              ·show Act.put _ (some 56) _ = _
               simp only [Act.put, List.setIfInBounds_toArray, List.set_cons_zero, List.set_cons_succ, i64_w, i32_w]
               rfl
              refine pure_ (i := 9) (N := some 3) (v := ?_) (a' := ?_) #[true, true, true, true, true, true, true, true, true, true] rfl rfl (any_of HT_.out (by kernel_rfl)) (fun _ _ _ h => h) (Or.inl ⟨by rfl, ?_⟩) ?_ ?_
              rotate_left
              ·intro w'
               go_simp
               with_reducible rfl
              rotate_left
              ·simp only [Act.put, List.setIfInBounds_toArray, List.set_cons_zero, List.set_cons_succ, i64_w, i32_w]
               rfl
              refine done_ (done_of HT_.out (by kernel_rfl)) ?_
              try go_wp2
              go_roundg k1
              case measure => have := HK1.out; omega
              case rel => exact ⟨(y292), (wrap64 (x4_1 + 1)), (by first | rfl | (simp; done) | (simp [*]; done)), H', ⟨by have := HK1.out; omega⟩, ⟨by (with_reducible repeat (first | apply Kd.R_alloc | apply Kd.R_drewN | apply Kd.R_drew)); exact Kd.R_mono HO294.out (fun _ hk => trivial)⟩, ⟨by repeat (first | (with_reducible first | exact HB.out | apply below_alloc | apply pw_below_drewN | apply below_drew1 | refine below_set ?_ GE277.out) | exact HB.out)⟩⟩
             ·rw [if_neg c14] at H
              exact absurd H (by simp)
            ·rw [if_neg c13] at H
             exact absurd H (by simp)
           ·rw [if_neg c12] at H
            exact absurd H (by simp)
          ·rw [if_neg c10] at H
           exact absurd H (by simp)
         ·rw [if_neg c9] at H
          have c9b0 : (((rd_T31 x3_1 (ji6)).f0) == 0) = false := beq_eq_false_iff_ne.mpr c9
          have c9b1 : (((rd_T31 x3_1 (ji6)).f0) != 0) = true := bne_iff_ne.mpr c9
          obtain ⟨y296, hy296⟩ : ∃ y_ : List (S31), y_ = (([(⟨(rd_T31 l0 x4_1).f0, (rd_T31 l0 x4_1).f1, (rd_T31 l0 x4_1).f2, (rd_T31 l0 x4_1).f3⟩ : S31)] : List (S31))) := ⟨_, rfl⟩
          replace H : (if x3_1.length + y296.length < 3518437208883 then (dactylref10_Joined.l0 k1 l0 (x3_1 ++ y296) (wrap64 (x4_1 + 1))) else (none)) = some r := by first | (rw [hy296]; with_reducible exact H) | (have H2_ := (Option.bind_some _ _).symm.trans H; rw [hy296]; with_reducible exact H2_) | (have H2_ := (Option.bind_some _ _).symm.trans H; with_reducible exact H2_) | with_reducible exact H | (rw [hy296]; exact H) | exact H
          have Ny296 := Aside0.mk hy296
          clear hy296
          by_cases c32 : x3_1.length + y296.length < 3518437208883
          ·rw [if_pos c32] at H
           have LMc32 := Aside0.mk c32
           clear c32
           obtain ⟨y299, hy299⟩ : ∃ y_ : List (S31), y_ = (x3_1 ++ y296) := ⟨_, rfl⟩
           replace H : (dactylref10_Joined.l0 k1 l0 y299 (wrap64 (x4_1 + 1))) = some r := by first | (rw [hy299]; with_reducible exact H) | (have H2_ := (Option.bind_some _ _).symm.trans H; rw [hy299]; with_reducible exact H2_) | (have H2_ := (Option.bind_some _ _).symm.trans H; with_reducible exact H2_) | with_reducible exact H | (rw [hy299]; exact H) | exact H
           have Ny299 := Aside0.mk hy299
           clear hy299
           have H' := Aside0.mk H
           clear H
           obtain ⟨Ao33, co33, eo33⟩ := Kd.R_slice HO_3.out
           subst eo33
           have p274 : 0 ≤ (x4_1 : Int) := of_decide_eq_true za
           have q274 : x4_1 < (l0.length : Int) := of_decide_eq_true za
           obtain ⟨ad274, e274, hx274_0, hx274_1, hx274_2, hx274_3⟩ := at_T31 HR0.out x4_1 p274 q274
           cases e274
           replace hx274_0 := (HB.out.cell (World.block_lt_of_cell? w _ hx274_0)).trans hx274_0
           replace hx274_1 := (HB.out.cell (World.block_lt_of_cell? w _ hx274_1)).trans hx274_1
           replace hx274_2 := (HB.out.cell (World.block_lt_of_cell? w _ hx274_2)).trans hx274_2
           replace hx274_3 := (HB.out.cell (World.block_lt_of_cell? w _ hx274_3)).trans hx274_3
           replace p274 := eq_true p274
           replace q274 := eq_true q274
           have p275 : 0 ≤ ((ji6) : Int) := of_decide_eq_true za
           have q275 : (ji6) < (x3_1.length : Int) := of_decide_eq_true za
           obtain ⟨ad275, e275, hx275_0, hx275_1, hx275_2, hx275_3⟩ := at_T31 (Kd.R_reads' HO_3.out).2.2 (ji6) p275 q275
           cases e275
           replace p275 := eq_true p275
           replace q275 := eq_true q275
           have p295 : 0 ≤ (x4_1 : Int) := of_decide_eq_true za
           have q295 : x4_1 < (l0.length : Int) := of_decide_eq_true za
           obtain ⟨ad295, e295, hx295_0, hx295_1, hx295_2, hx295_3⟩ := at_T31 HR0.out x4_1 p295 q295
           obtain rfl : ad274 = ad295 := (by injection e295)
           replace hx295_0 := (HB.out.cell (World.block_lt_of_cell? w _ hx295_0)).trans hx295_0
           replace hx295_1 := (HB.out.cell (World.block_lt_of_cell? w _ hx295_1)).trans hx295_1
           replace hx295_2 := (HB.out.cell (World.block_lt_of_cell? w _ hx295_2)).trans hx295_2
           replace hx295_3 := (HB.out.cell (World.block_lt_of_cell? w _ hx295_3)).trans hx295_3
           replace p295 := eq_true p295
           replace q295 := eq_true q295
           go_wp2_with (first | ((with_reducible refine gate_dst (N := 62) rfl ?_); refine Kd.R_lit k31 _ 31 ?hg (N := 62) ?hd (xs := ([(⟨(rd_T31 l0 x4_1).f0, (rd_T31 l0 x4_1).f1, (rd_T31 l0 x4_1).f2, (rd_T31 l0 x4_1).f3⟩ : S31)] : List (S31))) (inner := [.int .i64 ((rd_T31 l0 x4_1).f0), .int .i64 ((rd_T31 l0 x4_1).f1), .int .i64 ((rd_T31 l0 x4_1).f2), .string ((rd_T31 l0 x4_1).f3)]) (ok := fun _ => True) (okp := fun _ => True) ?hr ?hp (fun _ hk => hk) trivial (Below.refl _ _) (Nat.le_refl _) (by simp) ?_; (case hd => rfl); (case hg => rfl); (case hr => first | (go_simp; done) | (go_simp; rfl)); (case hp => exact (Reps.c4 (show Kd.M k31 _ _ _ (⟨(rd_T31 l0 x4_1).f0, (rd_T31 l0 x4_1).f1, (rd_T31 l0 x4_1).f2, (rd_T31 l0 x4_1).f3⟩ : S31) [.int .i64 ((rd_T31 l0 x4_1).f0), .int .i64 ((rd_T31 l0 x4_1).f1), .int .i64 ((rd_T31 l0 x4_1).f2), .string ((rd_T31 l0 x4_1).f3)] from (k31_mkM _ _ _ (⟨(rd_T31 l0 x4_1).f0, (rd_T31 l0 x4_1).f1, (rd_T31 l0 x4_1).f2, (rd_T31 l0 x4_1).f3⟩ : S31) )) (Reps.none _ _))); intro v297 w34 ho35 hb hg_ hnew_; clear hg_ hnew_; (first | rw [← Ny296.out] at ho35 | (simp only [Int.reduceToNat] at ho35; rw [← Ny296.out] at ho35)); have n0_ := Aside0.mk (Kd.R_elder' (zk HO_3.out) (Kd.R_base ho35) hb); have n1_ := Aside0.mk (Kd.R_lower (Kd.R_new' ho35 (Kd.R_lt (zk HO_3.out))) (below_size zb)); have n2_ := Aside0.mk (below_step zb hb); clear HO_3; clear HB; have HO_3 := n0_; have HO298 := n1_; have HB := n2_; clear n0_ n1_ n2_; clear hb ho35; obtain ⟨Ao37, co37, eo37⟩ := Kd.R_slice HO298.out; subst eo37) | ((with_reducible refine gate_builtin (b := .append) (xs := #[.tmp 57, .tmp 62]) rfl ?_); at_builtin; refine Kd.R_append_rows k31 (w0 := w) w.heap.size rfl (.tmp 57) (.tmp 62) 22 31 (.agg #[(.int .i64 0), (.int .i64 0), (.int .i64 0), (.string ⟨#[]⟩)]) 40 rfl Try.underlying22 info31 rfl (by decide) (by omega) (.slice (some ad275) x3_1.length co33) x3_1 y296 _ _ _ (fun k_ => some k_ ≠ (.slice Ao37 y296.length co37 : Value).ownBlock) (fun _ => False) rfl rfl ?aO ?aR (fun _ _ h => h) (fun _ h => h.elim) ?aF ?aB ?aS ?aL ?_; (case aR => repeat (first | exact (Kd.R_reads' HO298.out).2.2 | (with_reducible refine Kd.C_alloc ?_ _) | (with_reducible refine Kd.C_drewN ?_ _) | (with_reducible refine Kd.C_drew ?_))); (case aB => exact zb); (case aF => exact (fun k_ hk => Kd.fresh' (Kd.R_lt (zk HO298.out)) k_ hk)); (case aO => exact (by (with_reducible repeat (first | apply Kd.R_alloc | apply Kd.R_drewN | apply Kd.R_drew)); exact Kd.R_mono HO_3.out (fun _ hk => hk.2))); (case aS => exact (below_size zb)); (case aL => have := LMc32.out; omega); intro v300 w36 ho hb hg hat; rw [← Ny299.out] at ho; have n0_ := Aside0.mk (Kd.R_after (ok := (fun _ => True)) (zk HO298.out) hg hat); have n1_ := Aside0.mk (hb); have n2_ := Aside0.mk (ho); clear HO298; clear HB; clear HO_3; have HO298 := n0_; have HB := n1_; have HO301 := n2_; clear n0_ n1_ n2_; clear ho hb hg hat))
           go_roundg k1
           case measure => have := HK1.out; omega
           case rel => exact ⟨(y299), (wrap64 (x4_1 + 1)), (by first | rfl | (simp; done) | (simp [*]; done)), H', ⟨by have := HK1.out; omega⟩, ⟨by (with_reducible repeat (first | apply Kd.R_alloc | apply Kd.R_drewN | apply Kd.R_drew)); exact Kd.R_mono HO301.out (fun _ hk => trivial)⟩, ⟨by repeat (first | (with_reducible first | exact HB.out | apply below_alloc | apply pw_below_drewN | apply below_drew1) | exact HB.out)⟩⟩
          ·rw [if_neg c32] at H
           exact absurd H (by simp)
        ·rw [if_neg c8] at H
         exact absurd H (by simp)
       ·rw [if_neg c7] at H
        exact absurd H (by simp)
      ·rw [if_neg c5] at H
       have c5b0 : (((rd_T31 l0 x4_1).f0) == 0) = false := beq_eq_false_iff_ne.mpr c5
       have c5b1 : (((rd_T31 l0 x4_1).f0) != 0) = true := bne_iff_ne.mpr c5
       obtain ⟨y303, hy303⟩ : ∃ y_ : List (S31), y_ = (([(⟨(rd_T31 l0 x4_1).f0, (rd_T31 l0 x4_1).f1, (rd_T31 l0 x4_1).f2, (rd_T31 l0 x4_1).f3⟩ : S31)] : List (S31))) := ⟨_, rfl⟩
       replace H : (if x3_1.length + y303.length < 3518437208883 then (dactylref10_Joined.l0 k1 l0 (x3_1 ++ y303) (wrap64 (x4_1 + 1))) else (none)) = some r := by first | (rw [hy303]; with_reducible exact H) | (have H2_ := (Option.bind_some _ _).symm.trans H; rw [hy303]; with_reducible exact H2_) | (have H2_ := (Option.bind_some _ _).symm.trans H; with_reducible exact H2_) | with_reducible exact H | (rw [hy303]; exact H) | exact H
       have Ny303 := Aside0.mk hy303
       clear hy303
       by_cases c38 : x3_1.length + y303.length < 3518437208883
       ·rw [if_pos c38] at H
        have LMc38 := Aside0.mk c38
        clear c38
        obtain ⟨y306, hy306⟩ : ∃ y_ : List (S31), y_ = (x3_1 ++ y303) := ⟨_, rfl⟩
        replace H : (dactylref10_Joined.l0 k1 l0 y306 (wrap64 (x4_1 + 1))) = some r := by first | (rw [hy306]; with_reducible exact H) | (have H2_ := (Option.bind_some _ _).symm.trans H; rw [hy306]; with_reducible exact H2_) | (have H2_ := (Option.bind_some _ _).symm.trans H; with_reducible exact H2_) | with_reducible exact H | (rw [hy306]; exact H) | exact H
        have Ny306 := Aside0.mk hy306
        clear hy306
        have H' := Aside0.mk H
        clear H
        obtain ⟨Ao39, co39, eo39⟩ := Kd.R_slice HO_3.out
        subst eo39
        have p274 : 0 ≤ (x4_1 : Int) := of_decide_eq_true za
        have q274 : x4_1 < (l0.length : Int) := of_decide_eq_true za
        obtain ⟨ad274, e274, hx274_0, hx274_1, hx274_2, hx274_3⟩ := at_T31 HR0.out x4_1 p274 q274
        cases e274
        replace hx274_0 := (HB.out.cell (World.block_lt_of_cell? w _ hx274_0)).trans hx274_0
        replace hx274_1 := (HB.out.cell (World.block_lt_of_cell? w _ hx274_1)).trans hx274_1
        replace hx274_2 := (HB.out.cell (World.block_lt_of_cell? w _ hx274_2)).trans hx274_2
        replace hx274_3 := (HB.out.cell (World.block_lt_of_cell? w _ hx274_3)).trans hx274_3
        replace p274 := eq_true p274
        replace q274 := eq_true q274
        have p302 : 0 ≤ (x4_1 : Int) := of_decide_eq_true za
        have q302 : x4_1 < (l0.length : Int) := of_decide_eq_true za
        obtain ⟨ad302, e302, hx302_0, hx302_1, hx302_2, hx302_3⟩ := at_T31 HR0.out x4_1 p302 q302
        obtain rfl : ad274 = ad302 := (by injection e302)
        replace hx302_0 := (HB.out.cell (World.block_lt_of_cell? w _ hx302_0)).trans hx302_0
        replace hx302_1 := (HB.out.cell (World.block_lt_of_cell? w _ hx302_1)).trans hx302_1
        replace hx302_2 := (HB.out.cell (World.block_lt_of_cell? w _ hx302_2)).trans hx302_2
        replace hx302_3 := (HB.out.cell (World.block_lt_of_cell? w _ hx302_3)).trans hx302_3
        replace p302 := eq_true p302
        replace q302 := eq_true q302
        go_wp2_with (first | ((with_reducible refine gate_dst (N := 62) rfl ?_); refine Kd.R_lit k31 _ 31 ?hg (N := 62) ?hd (xs := ([(⟨(rd_T31 l0 x4_1).f0, (rd_T31 l0 x4_1).f1, (rd_T31 l0 x4_1).f2, (rd_T31 l0 x4_1).f3⟩ : S31)] : List (S31))) (inner := [.int .i64 ((rd_T31 l0 x4_1).f0), .int .i64 ((rd_T31 l0 x4_1).f1), .int .i64 ((rd_T31 l0 x4_1).f2), .string ((rd_T31 l0 x4_1).f3)]) (ok := fun _ => True) (okp := fun _ => True) ?hr ?hp (fun _ hk => hk) trivial (Below.refl _ _) (Nat.le_refl _) (by simp) ?_; (case hd => rfl); (case hg => rfl); (case hr => first | (go_simp; done) | (go_simp; rfl)); (case hp => exact (Reps.c4 (show Kd.M k31 _ _ _ (⟨(rd_T31 l0 x4_1).f0, (rd_T31 l0 x4_1).f1, (rd_T31 l0 x4_1).f2, (rd_T31 l0 x4_1).f3⟩ : S31) [.int .i64 ((rd_T31 l0 x4_1).f0), .int .i64 ((rd_T31 l0 x4_1).f1), .int .i64 ((rd_T31 l0 x4_1).f2), .string ((rd_T31 l0 x4_1).f3)] from (k31_mkM _ _ _ (⟨(rd_T31 l0 x4_1).f0, (rd_T31 l0 x4_1).f1, (rd_T31 l0 x4_1).f2, (rd_T31 l0 x4_1).f3⟩ : S31) )) (Reps.none _ _))); intro v304 w40 ho41 hb hg_ hnew_; clear hg_ hnew_; (first | rw [← Ny303.out] at ho41 | (simp only [Int.reduceToNat] at ho41; rw [← Ny303.out] at ho41)); have n0_ := Aside0.mk (Kd.R_elder' (zk HO_3.out) (Kd.R_base ho41) hb); have n1_ := Aside0.mk (Kd.R_lower (Kd.R_new' ho41 (Kd.R_lt (zk HO_3.out))) (below_size zb)); have n2_ := Aside0.mk (below_step zb hb); clear HO_3; clear HB; have HO_3 := n0_; have HO305 := n1_; have HB := n2_; clear n0_ n1_ n2_; clear hb ho41; obtain ⟨Ao43, co43, eo43⟩ := Kd.R_slice HO305.out; subst eo43) | ((with_reducible refine gate_builtin (b := .append) (xs := #[.tmp 57, .tmp 62]) rfl ?_); at_builtin; refine Kd.R_append_rows k31 (w0 := w) w.heap.size rfl (.tmp 57) (.tmp 62) 22 31 (.agg #[(.int .i64 0), (.int .i64 0), (.int .i64 0), (.string ⟨#[]⟩)]) 40 rfl Try.underlying22 info31 rfl (by decide) (by omega) (.slice Ao39 x3_1.length co39) x3_1 y303 _ _ _ (fun k_ => some k_ ≠ (.slice Ao43 y303.length co43 : Value).ownBlock) (fun _ => False) rfl rfl ?aO ?aR (fun _ _ h => h) (fun _ h => h.elim) ?aF ?aB ?aS ?aL ?_; (case aR => repeat (first | exact (Kd.R_reads' HO305.out).2.2 | (with_reducible refine Kd.C_alloc ?_ _) | (with_reducible refine Kd.C_drewN ?_ _) | (with_reducible refine Kd.C_drew ?_))); (case aB => exact zb); (case aF => exact (fun k_ hk => Kd.fresh' (Kd.R_lt (zk HO305.out)) k_ hk)); (case aO => exact (by (with_reducible repeat (first | apply Kd.R_alloc | apply Kd.R_drewN | apply Kd.R_drew)); exact Kd.R_mono HO_3.out (fun _ hk => hk.2))); (case aS => exact (below_size zb)); (case aL => have := LMc38.out; omega); intro v307 w42 ho hb hg hat; rw [← Ny306.out] at ho; have n0_ := Aside0.mk (Kd.R_after (ok := (fun _ => True)) (zk HO305.out) hg hat); have n1_ := Aside0.mk (hb); have n2_ := Aside0.mk (ho); clear HO305; clear HB; clear HO_3; have HO305 := n0_; have HB := n1_; have HO308 := n2_; clear n0_ n1_ n2_; clear ho hb hg hat))
        go_roundg k1
        case measure => have := HK1.out; omega
        case rel => exact ⟨(y306), (wrap64 (x4_1 + 1)), (by first | rfl | (simp; done) | (simp [*]; done)), H', ⟨by have := HK1.out; omega⟩, ⟨by (with_reducible repeat (first | apply Kd.R_alloc | apply Kd.R_drewN | apply Kd.R_drew)); exact Kd.R_mono HO308.out (fun _ hk => trivial)⟩, ⟨by repeat (first | (with_reducible first | exact HB.out | apply below_alloc | apply pw_below_drewN | apply below_drew1) | exact HB.out)⟩⟩
       ·rw [if_neg c38] at H
        exact absurd H (by simp)
     ·rw [if_neg c4] at H
      exact absurd H (by simp)
    ·rw [if_neg c3] at H
     have c3b0 : decide (0 < (x3_1.length : Int)) = false := decide_eq_false c3
     have c3b1 : decide (0 < x3_1.length) = false := decide_eq_false (by omega)
     clear c3
     by_cases c44 : 0 ≤ x4_1
     ·rw [if_pos c44] at H
      have c44b0 : decide (0 ≤ x4_1) = true := decide_eq_true c44
      clear c44
      obtain ⟨y310, hy310⟩ : ∃ y_ : List (S31), y_ = (([(⟨(rd_T31 l0 x4_1).f0, (rd_T31 l0 x4_1).f1, (rd_T31 l0 x4_1).f2, (rd_T31 l0 x4_1).f3⟩ : S31)] : List (S31))) := ⟨_, rfl⟩
      replace H : (if x3_1.length + y310.length < 3518437208883 then (dactylref10_Joined.l0 k1 l0 (x3_1 ++ y310) (wrap64 (x4_1 + 1))) else (none)) = some r := by first | (rw [hy310]; with_reducible exact H) | (have H2_ := (Option.bind_some _ _).symm.trans H; rw [hy310]; with_reducible exact H2_) | (have H2_ := (Option.bind_some _ _).symm.trans H; with_reducible exact H2_) | with_reducible exact H | (rw [hy310]; exact H) | exact H
      have Ny310 := Aside0.mk hy310
      clear hy310
      by_cases c45 : x3_1.length + y310.length < 3518437208883
      ·rw [if_pos c45] at H
       have LMc45 := Aside0.mk c45
       clear c45
       obtain ⟨y313, hy313⟩ : ∃ y_ : List (S31), y_ = (x3_1 ++ y310) := ⟨_, rfl⟩
       replace H : (dactylref10_Joined.l0 k1 l0 y313 (wrap64 (x4_1 + 1))) = some r := by first | (rw [hy313]; with_reducible exact H) | (have H2_ := (Option.bind_some _ _).symm.trans H; rw [hy313]; with_reducible exact H2_) | (have H2_ := (Option.bind_some _ _).symm.trans H; with_reducible exact H2_) | with_reducible exact H | (rw [hy313]; exact H) | exact H
       have Ny313 := Aside0.mk hy313
       clear hy313
       have H' := Aside0.mk H
       clear H
       obtain ⟨Ao46, co46, eo46⟩ := Kd.R_slice HO_3.out
       subst eo46
       have p309 : 0 ≤ (x4_1 : Int) := of_decide_eq_true za
       have q309 : x4_1 < (l0.length : Int) := of_decide_eq_true za
       obtain ⟨ad309, e309, hx309_0, hx309_1, hx309_2, hx309_3⟩ := at_T31 HR0.out x4_1 p309 q309
       cases e309
       replace hx309_0 := (HB.out.cell (World.block_lt_of_cell? w _ hx309_0)).trans hx309_0
       replace hx309_1 := (HB.out.cell (World.block_lt_of_cell? w _ hx309_1)).trans hx309_1
       replace hx309_2 := (HB.out.cell (World.block_lt_of_cell? w _ hx309_2)).trans hx309_2
       replace hx309_3 := (HB.out.cell (World.block_lt_of_cell? w _ hx309_3)).trans hx309_3
       replace p309 := eq_true p309
       replace q309 := eq_true q309
       go_wp2_with (first | ((with_reducible refine gate_dst (N := 62) rfl ?_); refine Kd.R_lit k31 _ 31 ?hg (N := 62) ?hd (xs := ([(⟨(rd_T31 l0 x4_1).f0, (rd_T31 l0 x4_1).f1, (rd_T31 l0 x4_1).f2, (rd_T31 l0 x4_1).f3⟩ : S31)] : List (S31))) (inner := [.int .i64 ((rd_T31 l0 x4_1).f0), .int .i64 ((rd_T31 l0 x4_1).f1), .int .i64 ((rd_T31 l0 x4_1).f2), .string ((rd_T31 l0 x4_1).f3)]) (ok := fun _ => True) (okp := fun _ => True) ?hr ?hp (fun _ hk => hk) trivial (Below.refl _ _) (Nat.le_refl _) (by simp) ?_; (case hd => rfl); (case hg => rfl); (case hr => first | (go_simp; done) | (go_simp; rfl)); (case hp => exact (Reps.c4 (show Kd.M k31 _ _ _ (⟨(rd_T31 l0 x4_1).f0, (rd_T31 l0 x4_1).f1, (rd_T31 l0 x4_1).f2, (rd_T31 l0 x4_1).f3⟩ : S31) [.int .i64 ((rd_T31 l0 x4_1).f0), .int .i64 ((rd_T31 l0 x4_1).f1), .int .i64 ((rd_T31 l0 x4_1).f2), .string ((rd_T31 l0 x4_1).f3)] from (k31_mkM _ _ _ (⟨(rd_T31 l0 x4_1).f0, (rd_T31 l0 x4_1).f1, (rd_T31 l0 x4_1).f2, (rd_T31 l0 x4_1).f3⟩ : S31) )) (Reps.none _ _))); intro v311 w47 ho48 hb hg_ hnew_; clear hg_ hnew_; (first | rw [← Ny310.out] at ho48 | (simp only [Int.reduceToNat] at ho48; rw [← Ny310.out] at ho48)); have n0_ := Aside0.mk (Kd.R_elder' (zk HO_3.out) (Kd.R_base ho48) hb); have n1_ := Aside0.mk (Kd.R_lower (Kd.R_new' ho48 (Kd.R_lt (zk HO_3.out))) (below_size zb)); have n2_ := Aside0.mk (below_step zb hb); clear HO_3; clear HB; have HO_3 := n0_; have HO312 := n1_; have HB := n2_; clear n0_ n1_ n2_; clear hb ho48; obtain ⟨Ao50, co50, eo50⟩ := Kd.R_slice HO312.out; subst eo50) | ((with_reducible refine gate_builtin (b := .append) (xs := #[.tmp 57, .tmp 62]) rfl ?_); at_builtin; refine Kd.R_append_rows k31 (w0 := w) w.heap.size rfl (.tmp 57) (.tmp 62) 22 31 (.agg #[(.int .i64 0), (.int .i64 0), (.int .i64 0), (.string ⟨#[]⟩)]) 40 rfl Try.underlying22 info31 rfl (by decide) (by omega) (.slice Ao46 x3_1.length co46) x3_1 y310 _ _ _ (fun k_ => some k_ ≠ (.slice Ao50 y310.length co50 : Value).ownBlock) (fun _ => False) rfl rfl ?aO ?aR (fun _ _ h => h) (fun _ h => h.elim) ?aF ?aB ?aS ?aL ?_; (case aR => repeat (first | exact (Kd.R_reads' HO312.out).2.2 | (with_reducible refine Kd.C_alloc ?_ _) | (with_reducible refine Kd.C_drewN ?_ _) | (with_reducible refine Kd.C_drew ?_))); (case aB => exact zb); (case aF => exact (fun k_ hk => Kd.fresh' (Kd.R_lt (zk HO312.out)) k_ hk)); (case aO => exact (by (with_reducible repeat (first | apply Kd.R_alloc | apply Kd.R_drewN | apply Kd.R_drew)); exact Kd.R_mono HO_3.out (fun _ hk => hk.2))); (case aS => exact (below_size zb)); (case aL => have := LMc45.out; omega); intro v314 w49 ho hb hg hat; rw [← Ny313.out] at ho; have n0_ := Aside0.mk (Kd.R_after (ok := (fun _ => True)) (zk HO312.out) hg hat); have n1_ := Aside0.mk (hb); have n2_ := Aside0.mk (ho); clear HO312; clear HB; clear HO_3; have HO312 := n0_; have HB := n1_; have HO315 := n2_; clear n0_ n1_ n2_; clear ho hb hg hat))
       go_roundg k1
       case measure => have := HK1.out; omega
       case rel => exact ⟨(y313), (wrap64 (x4_1 + 1)), (by first | rfl | (simp; done) | (simp [*]; done)), H', ⟨by have := HK1.out; omega⟩, ⟨by (with_reducible repeat (first | apply Kd.R_alloc | apply Kd.R_drewN | apply Kd.R_drew)); exact Kd.R_mono HO315.out (fun _ hk => trivial)⟩, ⟨by repeat (first | (with_reducible first | exact HB.out | apply below_alloc | apply pw_below_drewN | apply below_drew1) | exact HB.out)⟩⟩
      ·rw [if_neg c45] at H
       exact absurd H (by simp)
     ·rw [if_neg c44] at H
      exact absurd H (by simp)
   ·rw [if_neg c2] at H
    have c2b0 : decide (x4_1 < (l0.length : Int)) = false := decide_eq_false c2
    clear c2
    obtain rfl := Option.some.inj H
    go_wp2
    go_ret
    exact ⟨_, zr, by (with_reducible repeat (first | apply Kd.R_alloc | apply Kd.R_drewN | apply Kd.R_drew)); exact HO_3.out, by repeat (first | (with_reducible first | exact HB.out | apply below_alloc | apply pw_below_drewN | apply below_drew1) | exact HB.out)⟩

end Go.Proofs.Ytddkmhkglmcihaa.PAll
