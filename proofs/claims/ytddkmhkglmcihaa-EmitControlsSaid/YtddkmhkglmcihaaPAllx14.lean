-- Printed for this claim by the session's own program (wip/tool/hprint.py) over the kit's print; some functions' texts are the session's own.
import Derived.Test.YtddkmhkglmcihaaPAllx0
namespace Go.Proofs.Ytddkmhkglmcihaa.PAll
open Go.RowKit Go.Proofs.YtddkmhkglmcihaaW.PrintWords Go.Proofs.YtddkmhkglmcihaaW.PrintLast Go.Proofs.YtddkmhkglmcihaaW.PrintMore
attribute [local go_sem] max2_int min2_int max_two min_two max_three min_three max_four min_four   -- for this text's walks alone
set_option linter.unusedVariables false
set_option linter.unusedSimpArgs false

/-! ### dactylref10_Joined: function 17 -/
def dactylref10_Joined.l0 : Nat → List (S31) → List (S31) → Int → Option ((List (S31)))
 | 0, _, _, _ => none
 | k + 1, x0, x3, x4 => if x4 < (x0.length : Int) then (if (x3.length : Int) > 0 then (if 0 ≤ x4 then (if ((rd_T31 x0 x4).f0) = 0 then (if 0 ≤ (wrap64 ((x3.length : Int) - 1)) then (if (wrap64 ((x3.length : Int) - 1)) < (x3.length : Int) then (if ((rd_T31 x3 (wrap64 ((x3.length : Int) - 1))).f0) = 0 then (if ((rd_T31 x3 (wrap64 ((x3.length : Int) - 1))).f3).size + ((rd_T31 x0 x4).f3).size ≤ 9223372036854775807 then ((some (([] : List (S31)) : List (S31))).bind fun y278 => (if (wrap64 ((x3.length : Int) - 1)) ≤ (x3.length : Int) then ((some (x3.take ((wrap64 ((x3.length : Int) - 1)) : Int).toNat : List (S31))).bind fun y281 => (if y278.length + y281.length < 3518437208883 then ((some (y278 ++ y281 : List (S31))).bind fun y285 => ((some (([(⟨(rd_T31 x3 (wrap64 ((x3.length : Int) - 1))).f0, (rd_T31 x3 (wrap64 ((x3.length : Int) - 1))).f1, (rd_T31 x3 (wrap64 ((x3.length : Int) - 1))).f2, ((rd_T31 x3 (wrap64 ((x3.length : Int) - 1))).f3) ++ ((rd_T31 x0 x4).f3)⟩ : S31)] : List (S31)) : List (S31))).bind fun y288 => (if y285.length + y288.length < 3518437208883 then (dactylref10_Joined.l0 k x0 (y285 ++ y288) (wrap64 (x4 + 1))) else (none)))) else (none))) else (none))) else (none)) else ((some (([(⟨(rd_T31 x0 x4).f0, (rd_T31 x0 x4).f1, (rd_T31 x0 x4).f2, (rd_T31 x0 x4).f3⟩ : S31)] : List (S31)) : List (S31))).bind fun y295 => (if x3.length + y295.length < 3518437208883 then (dactylref10_Joined.l0 k x0 (x3 ++ y295) (wrap64 (x4 + 1))) else (none)))) else (none)) else (none)) else ((some (([(⟨(rd_T31 x0 x4).f0, (rd_T31 x0 x4).f1, (rd_T31 x0 x4).f2, (rd_T31 x0 x4).f3⟩ : S31)] : List (S31)) : List (S31))).bind fun y302 => (if x3.length + y302.length < 3518437208883 then (dactylref10_Joined.l0 k x0 (x3 ++ y302) (wrap64 (x4 + 1))) else (none)))) else (none)) else (if 0 ≤ x4 then ((some (([(⟨(rd_T31 x0 x4).f0, (rd_T31 x0 x4).f1, (rd_T31 x0 x4).f2, (rd_T31 x0 x4).f3⟩ : S31)] : List (S31)) : List (S31))).bind fun y309 => (if x3.length + y309.length < 3518437208883 then (dactylref10_Joined.l0 k x0 (x3 ++ y309) (wrap64 (x4 + 1))) else (none))) else (none))) else (some x3)
def dactylref10_Joined.f (k : Nat) (l0 : List (S31)) : Option ((List (S31))) := dactylref10_Joined.l0 k l0 ([] : List (S31)) 0
theorem dactylref10_Joined.mono_l : ∀ k, (∀ y0 y1 y2, LeO (dactylref10_Joined.l0 k y0 y1 y2) (dactylref10_Joined.l0 (k + 1) y0 y1 y2))
 | 0 => fun _ _ _ r h => by simp [dactylref10_Joined.l0] at h
 | k + 1 => by
  have ih0 := dactylref10_Joined.mono_l k
  ·intro y0 y1 y2
   unfold dactylref10_Joined.l0
   repeat' first
   | (with_reducible exact ih0 _ _ _)
   | (with_reducible exact LeO.refl _)
   | (with_reducible exact LeO.none _)
   | (with_reducible refine LeO.ite ?_ ?_)
   | (with_reducible refine LeO.bind ?_ (fun _ => ?_))
   | exact ih0 _ _ _
   | exact LeO.none _
   | refine LeO.ite ?_ ?_
   | refine LeO.bind ?_ (fun _ => ?_)
theorem dactylref10_Joined.mono : ∀ a0 k, LeO (dactylref10_Joined.f k a0) (dactylref10_Joined.f (k + 1) a0) := by
 intro a0 k
 have ih0 := dactylref10_Joined.mono_l k
 unfold dactylref10_Joined.f
 repeat' first
   | (with_reducible exact ih0 _ _ _)
   | (with_reducible exact LeO.refl _)
   | (with_reducible exact LeO.none _)
   | (with_reducible refine LeO.ite ?_ ?_)
   | (with_reducible refine LeO.bind ?_ (fun _ => ?_))
   | exact ih0 _ _ _
   | exact LeO.none _
   | refine LeO.ite ?_ ?_
   | refine LeO.bind ?_ (fun _ => ?_)
def dactylref10_Joined.T8 : Bool × List (List Nat × List Nat) := (true, [([], []), ([0], [0]), ([], []), ([], []), ([2, 3], [2, 3]), ([4], [4]), ([5], [5]), ([1, 6], [1, 6]), ([0, 1, 2, 3, 4, 5, 6, 7], []), ([8, 7, 0, 1, 2, 3, 4, 5, 6, 7], [7, 8])])
def dactylref10_Joined.B8 : List Nat := [0, 1, 0, 0, 12, 28, 60, 127, 255, 511]
theorem dactylref10_Joined.tab8 : rtab .any (opsOf Try.f17 8) = dactylref10_Joined.T8 := by kernel_rfl
theorem dactylref10_Joined.bits8 : waitsOk dactylref10_Joined.T8.2 dactylref10_Joined.B8 = true := by kernel_rfl
def dactylref10_Joined.T9 : Bool × List (List Nat × List Nat) := (true, [([], []), ([], []), ([], []), ([2], [2]), ([1, 3], [1, 3]), ([0, 4], [0, 4]), ([], []), ([6], [6]), ([5, 7, 5], [5, 7]), ([8, 8, 0, 1, 2, 3, 4, 5, 6, 7, 8], [1, 8])])
def dactylref10_Joined.B9 : List Nat := [0, 0, 0, 4, 14, 31, 0, 64, 255, 511]
theorem dactylref10_Joined.tab9 : rtab .any (opsOf Try.f17 9) = dactylref10_Joined.T9 := by kernel_rfl
theorem dactylref10_Joined.bits9 : waitsOk dactylref10_Joined.T9.2 dactylref10_Joined.B9 = true := by kernel_rfl
set_option maxHeartbeats 8000000 in
set_option maxRecDepth 100000 in
theorem dactylref10_Joined.calls (k : Nat) (A0 : Option Addr) (c0 : Nat) (l0 : List (S31)) (r : List (S31)) (w : World) (hr0 : Kd.C k31 w A0 l0.length l0) (hc0 : l0.length ≤ c0) (h : dactylref10_Joined.f k l0 = some r) :
  Calls Try.prog 17 #[.slice A0 l0.length c0] w fun e w' => ∃ v0_ : Value, e = .returned (v0_) ∧ Kd.R k31 31 w' w.heap.size (fun _ => True) v0_ r ∧ Below w.heap.size w w' := by
 have hu31 := Try.underlying31
 have HR0 := Aside0.mk hr0
 have HC0 := Aside0.mk hc0
 clear hr0 hc0
 have HB := Aside0.mk (Below.refl w.heap.size w)
 have H : (dactylref10_Joined.l0 k l0 ([] : List (S31)) 0) = some r := h
 clear h
 have H' := Aside0.mk H
 clear H
 go_enter Try.func17, Try.ntmps17
 go_wp2
 go_loopg [3, 4] k (fun kq v3 v4 w' => ∃ (x3_1 : List (S31)) (x4_1 : Int), v4 = .int .i64 x4_1 ∧ Aside0 (dactylref10_Joined.l0 kq l0 x3_1 x4_1 = some r) ∧ Aside0 (kq ≤ k) ∧ Aside0 (Kd.R k31 31 w' w.heap.size (fun _ => True) v3 x3_1) ∧ Aside0 (Below w.heap.size w w'))
 case atStart => exact ⟨(([] : List (S31))), (0), (by first | rfl | (simp; done) | (simp [*]; done)), H', ⟨Nat.le_refl _⟩, ⟨by first | exact Kd.R_nil _ _ _ _ _ | exact Kd.N_nil _ _ _ _ _ | exact Kd.V_nil _ _ _ _ _ | exact Kd.Q_nil _ _ _ _ _ | exact Kd.S_nil _ _ _ _ _⟩, ⟨by repeat (first | (with_reducible first | exact HB.out | apply below_alloc | apply pw_below_drewN | apply below_drew1) | exact HB.out)⟩⟩
 case round =>
  clear H'
  try clear c1
  obtain ⟨x3_1, x4_1, rfl, HA, HK1, HO_3, HB⟩ := hrel
  cases gk with
  | zero => exact absurd HA.out (by simp [dactylref10_Joined.l0])
  | succ k1 =>
   have H := HA.out
   clear HA
   simp only [dactylref10_Joined.l0] at H
   by_cases c2 : x4_1 < (l0.length : Int)
   ·rw [if_pos c2] at H
    have c2b0 : decide (x4_1 < (l0.length : Int)) = true := decide_eq_true c2
    clear c2
    by_cases c3 : (x3_1.length : Int) > 0
    ·rw [if_pos c3] at H
     have c3b0 : decide (0 < (x3_1.length : Int)) = true := decide_eq_true c3
     have c3b1 : decide (0 < x3_1.length) = true := decide_eq_true (by omega)
     clear c3
     by_cases c4 : 0 ≤ x4_1
     ·rw [if_pos c4] at H
      have c4b0 : decide (0 ≤ x4_1) = true := decide_eq_true c4
      clear c4
      by_cases c5 : ((rd_T31 l0 x4_1).f0) = 0
      ·rw [if_pos c5] at H
       have c5b0 : (((rd_T31 l0 x4_1).f0) == 0) = true := beq_iff_eq.mpr c5
       have c5b1 : (((rd_T31 l0 x4_1).f0) != 0) = false := bne_eq_false_iff_eq.mpr c5
       clear c5
       obtain ⟨ji6, hji6⟩ : ∃ j_ : Int, (wrap64 ((x3_1.length : Int) - 1)) = j_ := ⟨_, rfl⟩
       replace H : (if 0 ≤ (ji6) then (if (ji6) < (x3_1.length : Int) then (if ((rd_T31 x3_1 (ji6)).f0) = 0 then (if ((rd_T31 x3_1 (ji6)).f3).size + ((rd_T31 l0 x4_1).f3).size ≤ 9223372036854775807 then ((some (([] : List (S31)) : List (S31))).bind fun y278 => (if (ji6) ≤ (x3_1.length : Int) then ((some (x3_1.take ((ji6) : Int).toNat : List (S31))).bind fun y281 => (if y278.length + y281.length < 3518437208883 then ((some (y278 ++ y281 : List (S31))).bind fun y285 => ((some (([(⟨(rd_T31 x3_1 (ji6)).f0, (rd_T31 x3_1 (ji6)).f1, (rd_T31 x3_1 (ji6)).f2, ((rd_T31 x3_1 (ji6)).f3) ++ ((rd_T31 l0 x4_1).f3)⟩ : S31)] : List (S31)) : List (S31))).bind fun y288 => (if y285.length + y288.length < 3518437208883 then (dactylref10_Joined.l0 k1 l0 (y285 ++ y288) (wrap64 (x4_1 + 1))) else (none)))) else (none))) else (none))) else (none)) else ((some (([(⟨(rd_T31 l0 x4_1).f0, (rd_T31 l0 x4_1).f1, (rd_T31 l0 x4_1).f2, (rd_T31 l0 x4_1).f3⟩ : S31)] : List (S31)) : List (S31))).bind fun y295 => (if x3_1.length + y295.length < 3518437208883 then (dactylref10_Joined.l0 k1 l0 (x3_1 ++ y295) (wrap64 (x4_1 + 1))) else (none)))) else (none)) else (none)) = some r := by first | (rw [hji6] at H; exact H) | (simp only [hji6] at H ⊢; exact H)
       have hji6w : (IntKind.i64.wrap ((x3_1.length : Int) - 1)) = ji6 := (i64_w _).trans hji6
       by_cases c7 : 0 ≤ (ji6)
       ·rw [if_pos c7] at H
        have c7b0 : decide (0 ≤ (ji6)) = true := decide_eq_true c7
        clear c7
        by_cases c8 : (ji6) < (x3_1.length : Int)
        ·rw [if_pos c8] at H
         have c8b0 : decide ((ji6) < (x3_1.length : Int)) = true := decide_eq_true c8
         clear c8
         by_cases c9 : ((rd_T31 x3_1 (ji6)).f0) = 0
         ·rw [if_pos c9] at H
          have c9b0 : (((rd_T31 x3_1 (ji6)).f0) == 0) = true := beq_iff_eq.mpr c9
          have c9b1 : (((rd_T31 x3_1 (ji6)).f0) != 0) = false := bne_eq_false_iff_eq.mpr c9
          clear c9
          by_cases c10 : ((rd_T31 x3_1 (ji6)).f3).size + ((rd_T31 l0 x4_1).f3).size ≤ 9223372036854775807
          ·rw [if_pos c10] at H
           have c10b0 := eq_true c10
           have c10b1 : decide (((rd_T31 x3_1 (ji6)).f3).size + ((rd_T31 l0 x4_1).f3).size ≤ 9223372036854775807) = true := decide_eq_true c10
           try have c10b2 : (9223372036854775807 < ((rd_T31 x3_1 (ji6)).f3).size + ((rd_T31 l0 x4_1).f3).size) = False := eq_false (Nat.not_lt.2 c10)
           obtain ⟨y278, hy278⟩ : ∃ y_ : List (S31), y_ = (([] : List (S31))) := ⟨_, rfl⟩
           replace H : (if (ji6) ≤ (x3_1.length : Int) then ((some (x3_1.take ((ji6) : Int).toNat : List (S31))).bind fun y281 => (if y278.length + y281.length < 3518437208883 then ((some (y278 ++ y281 : List (S31))).bind fun y285 => ((some (([(⟨(rd_T31 x3_1 (ji6)).f0, (rd_T31 x3_1 (ji6)).f1, (rd_T31 x3_1 (ji6)).f2, ((rd_T31 x3_1 (ji6)).f3) ++ ((rd_T31 l0 x4_1).f3)⟩ : S31)] : List (S31)) : List (S31))).bind fun y288 => (if y285.length + y288.length < 3518437208883 then (dactylref10_Joined.l0 k1 l0 (y285 ++ y288) (wrap64 (x4_1 + 1))) else (none)))) else (none))) else (none)) = some r := by first | (rw [hy278]; with_reducible exact H) | (have H2_ := (Option.bind_some _ _).symm.trans H; rw [hy278]; with_reducible exact H2_) | (have H2_ := (Option.bind_some _ _).symm.trans H; with_reducible exact H2_) | with_reducible exact H | (rw [hy278]; exact H) | exact H
           have Ny278 := Aside0.mk hy278
           clear hy278
           have c11b0 := eq_true (of_decide_eq_true za : 0 ≤ (ji6))
           by_cases c12 : (ji6) ≤ (x3_1.length : Int)
           ·rw [if_pos c12] at H
            have c12b0 := eq_true c12
            have c12b1 : decide ((ji6) ≤ (x3_1.length : Int)) = true := decide_eq_true c12
            clear c12
            obtain ⟨y281, hy281⟩ : ∃ y_ : List (S31), y_ = (x3_1.take ((ji6) : Int).toNat) := ⟨_, rfl⟩
            replace H : (if y278.length + y281.length < 3518437208883 then ((some (y278 ++ y281 : List (S31))).bind fun y285 => ((some (([(⟨(rd_T31 x3_1 (ji6)).f0, (rd_T31 x3_1 (ji6)).f1, (rd_T31 x3_1 (ji6)).f2, ((rd_T31 x3_1 (ji6)).f3) ++ ((rd_T31 l0 x4_1).f3)⟩ : S31)] : List (S31)) : List (S31))).bind fun y288 => (if y285.length + y288.length < 3518437208883 then (dactylref10_Joined.l0 k1 l0 (y285 ++ y288) (wrap64 (x4_1 + 1))) else (none)))) else (none)) = some r := by first | (rw [hy281]; with_reducible exact H) | (have H2_ := (Option.bind_some _ _).symm.trans H; rw [hy281]; with_reducible exact H2_) | (have H2_ := (Option.bind_some _ _).symm.trans H; with_reducible exact H2_) | with_reducible exact H | (rw [hy281]; exact H) | exact H
            have Ny281 := Aside0.mk hy281
            clear hy281
            by_cases c13 : y278.length + y281.length < 3518437208883
            ·rw [if_pos c13] at H
             have LMc13 := Aside0.mk c13
             clear c13
             obtain ⟨y285, hy285⟩ : ∃ y_ : List (S31), y_ = (y278 ++ y281) := ⟨_, rfl⟩
             replace H : ((some (([(⟨(rd_T31 x3_1 (ji6)).f0, (rd_T31 x3_1 (ji6)).f1, (rd_T31 x3_1 (ji6)).f2, ((rd_T31 x3_1 (ji6)).f3) ++ ((rd_T31 l0 x4_1).f3)⟩ : S31)] : List (S31)) : List (S31))).bind fun y288 => (if y285.length + y288.length < 3518437208883 then (dactylref10_Joined.l0 k1 l0 (y285 ++ y288) (wrap64 (x4_1 + 1))) else (none))) = some r := by first | (rw [hy285]; with_reducible exact H) | (have H2_ := (Option.bind_some _ _).symm.trans H; rw [hy285]; with_reducible exact H2_) | (have H2_ := (Option.bind_some _ _).symm.trans H; with_reducible exact H2_) | with_reducible exact H | (rw [hy285]; exact H) | exact H
             have Ny285 := Aside0.mk hy285
             clear hy285
             obtain ⟨y288, hy288⟩ : ∃ y_ : List (S31), y_ = (([(⟨(rd_T31 x3_1 (ji6)).f0, (rd_T31 x3_1 (ji6)).f1, (rd_T31 x3_1 (ji6)).f2, ((rd_T31 x3_1 (ji6)).f3) ++ ((rd_T31 l0 x4_1).f3)⟩ : S31)] : List (S31))) := ⟨_, rfl⟩
             replace H : (if y285.length + y288.length < 3518437208883 then (dactylref10_Joined.l0 k1 l0 (y285 ++ y288) (wrap64 (x4_1 + 1))) else (none)) = some r := by first | (rw [hy288]; with_reducible exact H) | (have H2_ := (Option.bind_some _ _).symm.trans H; rw [hy288]; with_reducible exact H2_) | (have H2_ := (Option.bind_some _ _).symm.trans H; with_reducible exact H2_) | with_reducible exact H | (rw [hy288]; exact H) | exact H
             have Ny288 := Aside0.mk hy288
             clear hy288
             by_cases c14 : y285.length + y288.length < 3518437208883
             ·rw [if_pos c14] at H
              have LMc14 := Aside0.mk c14
              clear c14
              obtain ⟨y291, hy291⟩ : ∃ y_ : List (S31), y_ = (y285 ++ y288) := ⟨_, rfl⟩
              replace H : (dactylref10_Joined.l0 k1 l0 y291 (wrap64 (x4_1 + 1))) = some r := by first | (rw [hy291]; with_reducible exact H) | (have H2_ := (Option.bind_some _ _).symm.trans H; rw [hy291]; with_reducible exact H2_) | (have H2_ := (Option.bind_some _ _).symm.trans H; with_reducible exact H2_) | with_reducible exact H | (rw [hy291]; exact H) | exact H
              have Ny291 := Aside0.mk hy291
              clear hy291
              have H' := Aside0.mk H
              clear H
              obtain ⟨Ao15, co15, eo15⟩ := Kd.R_slice HO_3.out
              subst eo15
              have p273 : 0 ≤ (x4_1 : Int) := of_decide_eq_true za
              have q273 : x4_1 < (l0.length : Int) := of_decide_eq_true za
              obtain ⟨ad273, e273, hx273_0, hx273_1, hx273_2, hx273_3⟩ := at_T31 HR0.out x4_1 p273 q273
              cases e273
              replace hx273_0 := (HB.out.cell (World.block_lt_of_cell? w _ hx273_0)).trans hx273_0
              replace hx273_1 := (HB.out.cell (World.block_lt_of_cell? w _ hx273_1)).trans hx273_1
              replace hx273_2 := (HB.out.cell (World.block_lt_of_cell? w _ hx273_2)).trans hx273_2
              replace hx273_3 := (HB.out.cell (World.block_lt_of_cell? w _ hx273_3)).trans hx273_3
              replace p273 := eq_true p273
              replace q273 := eq_true q273
              have p274 : 0 ≤ ((ji6) : Int) := of_decide_eq_true za
              have q274 : (ji6) < (x3_1.length : Int) := of_decide_eq_true za
              obtain ⟨ad274, e274, hx274_0, hx274_1, hx274_2, hx274_3⟩ := at_T31 (Kd.R_reads' HO_3.out).2.2 (ji6) p274 q274
              cases e274
              replace p274 := eq_true p274
              replace q274 := eq_true q274
              have p275 : 0 ≤ ((ji6) : Int) := of_decide_eq_true za
              have q275 : (ji6) < (x3_1.length : Int) := of_decide_eq_true za
              obtain ⟨ad275, e275, hx275_0, hx275_1, hx275_2, hx275_3⟩ := at_T31 (Kd.R_reads' HO_3.out).2.2 (ji6) p275 q275
              obtain rfl : ad274 = ad275 := (by injection e275)
              replace p275 := eq_true p275
              replace q275 := eq_true q275
              try go_wp2_with (first | ((with_reducible refine gate_dst (N := 6) rfl ?_); refine box_event ?hg (N := 6) ?hd (cs := #[.int .i64 0, .int .i64 0, .int .i64 0, .string (⟨#[]⟩ : ByteArray)]) (t := 31) ?hr ?_; (case hd => rfl); (case hg => rfl); (case hr => first | (go_simp; done) | (go_simp; rfl)); intro gb276 hg w16 hbox hb; have n0_ := Aside0.mk (Kd.R_below (Kd.R_elderB (zk HO_3.out) gb276 (Nat.le_of_eq hg.symm)) hb); have n1_ := Aside0.mk (below_step zb hb); have n2_ := Aside0.mk (hbox); have n3_ := Aside0.mk ((by rw [hg]; exact (below_size zb) : w.heap.size ≤ gb276)); have n4_ := Aside0.mk ((by rw [hg]; exact (below_size zb) : w.heap.size ≤ gb276)); clear HO_3; clear HB; have HO_3 := n0_; have HB := n1_; have BK276 := n2_; have GW276 := n3_; have GE276 := n4_; clear n0_ n1_ n2_ n3_ n4_; clear hb hbox hg; have hcz17_0 : w16.cell? ⟨gb276, 0, none⟩ = some (.int .i64 0) := (blk_cell BK276.out 0).trans rfl; have hcz17_1 : w16.cell? ⟨gb276, 1, none⟩ = some (.int .i64 0) := (blk_cell BK276.out 1).trans rfl; have hcz17_2 : w16.cell? ⟨gb276, 2, none⟩ = some (.int .i64 0) := (blk_cell BK276.out 2).trans rfl; have hcz17_3 : w16.cell? ⟨gb276, 3, none⟩ = some (.string (⟨#[]⟩ : ByteArray)) := (blk_cell BK276.out 3).trans rfl; have hfz17_0 := blk_frozen BK276.out 0; have hfz17_1 := blk_frozen BK276.out 1; have hfz17_2 := blk_frozen BK276.out 2; have hfz17_3 := blk_frozen BK276.out 3))
              have n0_ : Aside0 (Kd.R k31 31 ((((w16.setCell ⟨gb276, 0, none⟩ (.int .i64 ((rd_T31 x3_1 (ji6)).f0))).setCell ⟨gb276, 1, none⟩ (.int .i64 ((rd_T31 x3_1 (ji6)).f1))).setCell ⟨gb276, 2, none⟩ (.int .i64 ((rd_T31 x3_1 (ji6)).f2))).setCell ⟨gb276, 3, none⟩ (.string ((rd_T31 x3_1 (ji6)).f3))) w.heap.size (fun k_ => k_ ≠ gb276) (.slice (some ad274) x3_1.length co15) x3_1) := ⟨by (with_reducible repeat (first | apply Kd.R_alloc | apply Kd.R_drewN | apply Kd.R_drew)); exact Kd.R_mono (Kd.R_far (p := ⟨gb276, 3, none⟩) (Kd.R_far (p := ⟨gb276, 2, none⟩) (Kd.R_far (p := ⟨gb276, 1, none⟩) (Kd.R_far (p := ⟨gb276, 0, none⟩) (Kd.R_mono HO_3.out (fun k_ hk => (⟨hk, hk.2⟩ : _ ∧ k_ ≠ gb276))) (fun _ hk => hk.2) (.int .i64 ((rd_T31 x3_1 (ji6)).f0))) (fun _ hk => hk.2) (.int .i64 ((rd_T31 x3_1 (ji6)).f1))) (fun _ hk => hk.2) (.int .i64 ((rd_T31 x3_1 (ji6)).f2))) (fun _ hk => hk.2) (.string ((rd_T31 x3_1 (ji6)).f3))) (fun _ hk => hk.1.2)⟩
              have n1_ : Aside0 (((((w16.setCell ⟨gb276, 0, none⟩ (.int .i64 ((rd_T31 x3_1 (ji6)).f0))).setCell ⟨gb276, 1, none⟩ (.int .i64 ((rd_T31 x3_1 (ji6)).f1))).setCell ⟨gb276, 2, none⟩ (.int .i64 ((rd_T31 x3_1 (ji6)).f2))).setCell ⟨gb276, 3, none⟩ (.string ((rd_T31 x3_1 (ji6)).f3))).heap[gb276]? = some (.cells #[.int .i64 ((rd_T31 x3_1 (ji6)).f0), .int .i64 ((rd_T31 x3_1 (ji6)).f1), .int .i64 ((rd_T31 x3_1 (ji6)).f2), .string ((rd_T31 x3_1 (ji6)).f3)] 31 (0, 0))) := ⟨by (with_reducible repeat (first | refine blk_drewN ?_ _ | refine blk_drew ?_ | refine blk_alloc ?_ _)); refine blk_put (cs := #[.int .i64 ((rd_T31 x3_1 (ji6)).f0), .int .i64 ((rd_T31 x3_1 (ji6)).f1), .int .i64 ((rd_T31 x3_1 (ji6)).f2), .string (⟨#[]⟩ : ByteArray)]) ?_ 3 _ rfl; (with_reducible repeat (first | refine blk_drewN ?_ _ | refine blk_drew ?_ | refine blk_alloc ?_ _)); refine blk_put (cs := #[.int .i64 ((rd_T31 x3_1 (ji6)).f0), .int .i64 ((rd_T31 x3_1 (ji6)).f1), .int .i64 0, .string (⟨#[]⟩ : ByteArray)]) ?_ 2 _ rfl; (with_reducible repeat (first | refine blk_drewN ?_ _ | refine blk_drew ?_ | refine blk_alloc ?_ _)); refine blk_put (cs := #[.int .i64 ((rd_T31 x3_1 (ji6)).f0), .int .i64 0, .int .i64 0, .string (⟨#[]⟩ : ByteArray)]) ?_ 1 _ rfl; (with_reducible repeat (first | refine blk_drewN ?_ _ | refine blk_drew ?_ | refine blk_alloc ?_ _)); refine blk_put (cs := #[.int .i64 0, .int .i64 0, .int .i64 0, .string (⟨#[]⟩ : ByteArray)]) ?_ 0 _ rfl; (with_reducible repeat (first | refine blk_drewN ?_ _ | refine blk_drew ?_ | refine blk_alloc ?_ _)); exact BK276.out⟩
              have n2_ : Aside0 (Below w.heap.size w ((((w16.setCell ⟨gb276, 0, none⟩ (.int .i64 ((rd_T31 x3_1 (ji6)).f0))).setCell ⟨gb276, 1, none⟩ (.int .i64 ((rd_T31 x3_1 (ji6)).f1))).setCell ⟨gb276, 2, none⟩ (.int .i64 ((rd_T31 x3_1 (ji6)).f2))).setCell ⟨gb276, 3, none⟩ (.string ((rd_T31 x3_1 (ji6)).f3)))) := ⟨by repeat (first | (with_reducible first | exact HB.out | apply below_alloc | apply pw_below_drewN | apply below_drew1 | refine below_set ?_ GE276.out) | exact HB.out)⟩
              (try clear HO_3)
              (try clear BK276)
              (try clear HB)
              generalize ((((w16.setCell ⟨gb276, 0, none⟩ (.int .i64 ((rd_T31 x3_1 (ji6)).f0))).setCell ⟨gb276, 1, none⟩ (.int .i64 ((rd_T31 x3_1 (ji6)).f1))).setCell ⟨gb276, 2, none⟩ (.int .i64 ((rd_T31 x3_1 (ji6)).f2))).setCell ⟨gb276, 3, none⟩ (.string ((rd_T31 x3_1 (ji6)).f3))) = w18 at n0_ n1_ n2_ ⊢
              have HO_3 := n0_
              have BK276 := n1_
              have HB := n2_
              clear n0_ n1_ n2_
              have n0_ := Aside0.mk (Kd.R_drew HO_3.out)
              have n1_ := Aside0.mk (blk_drew BK276.out)
              have n2_ := Aside0.mk (below_drew1 HB.out)
              clear HO_3
              clear BK276
              clear HB
              have HO_3 := n0_
              have BK276 := n1_
              have HB := n2_
              clear n0_ n1_ n2_
              have p277 : 0 ≤ (x4_1 : Int) := of_decide_eq_true za
              have q277 : x4_1 < (l0.length : Int) := of_decide_eq_true za
              obtain ⟨ad277, e277, hx277_0, hx277_1, hx277_2, hx277_3⟩ := at_T31 HR0.out x4_1 p277 q277
              have hw277_3 := hx277_3
              have hw277_2 := hx277_2
              have hw277_1 := hx277_1
              have hw277_0 := hx277_0
              obtain rfl : ad273 = ad277 := (by injection e277)
              replace hx277_0 := (HB.out.cell (World.block_lt_of_cell? w _ hx277_0)).trans hx277_0
              replace hx277_1 := (HB.out.cell (World.block_lt_of_cell? w _ hx277_1)).trans hx277_1
              replace hx277_2 := (HB.out.cell (World.block_lt_of_cell? w _ hx277_2)).trans hx277_2
              replace hx277_3 := (HB.out.cell (World.block_lt_of_cell? w _ hx277_3)).trans hx277_3
              replace p277 := eq_true p277
              replace q277 := eq_true q277
              refine start_ (n := 10) (S := fun w' => w'.cell? ⟨gb276, 0, none⟩ = some (.int .i64 ((rd_T31 x3_1 (ji6)).f0)) ∧ w'.cell? ⟨gb276, 1, none⟩ = some (.int .i64 ((rd_T31 x3_1 (ji6)).f1)) ∧ w'.cell? ⟨gb276, 2, none⟩ = some (.int .i64 ((rd_T31 x3_1 (ji6)).f2)) ∧ w'.cell? ⟨gb276, 3, none⟩ = some (.string ((rd_T31 x3_1 (ji6)).f3)) ∧ w'.cell? (ad273.add ((x4_1).toNat * 4)) = some (.int .i64 ((rd_T31 l0 x4_1).f0)) ∧ w'.cell? ⟨(ad273.add ((x4_1).toNat * 4)).block, (ad273.add ((x4_1).toNat * 4)).off + 1, none⟩ = some (.int .i64 ((rd_T31 l0 x4_1).f1)) ∧ w'.cell? ⟨(ad273.add ((x4_1).toNat * 4)).block, (ad273.add ((x4_1).toNat * 4)).off + 2, none⟩ = some (.int .i64 ((rd_T31 l0 x4_1).f2)) ∧ w'.cell? ⟨(ad273.add ((x4_1).toNat * 4)).block, (ad273.add ((x4_1).toNat * 4)).off + 3, none⟩ = some (.string ((rd_T31 l0 x4_1).f3))) (ds := [9]) #[false, false, false, false, false, false, false, false, false, false] (by kernel_rfl) rfl rfl ⟨(blk_cell BK276.out 0).trans rfl, (blk_cell BK276.out 1).trans rfl, (blk_cell BK276.out 2).trans rfl, (blk_cell BK276.out 3).trans rfl, ((HB.out.cell (World.block_lt_of_cell? w _ hw277_0)).trans hw277_0), ((HB.out.cell (World.block_lt_of_cell? w _ hw277_1)).trans hw277_1), ((HB.out.cell (World.block_lt_of_cell? w _ hw277_2)).trans hw277_2), ((HB.out.cell (World.block_lt_of_cell? w _ hw277_3)).trans hw277_3)⟩ (fun hHeld => ?_); refine with_tabW dactylref10_Joined.tab8 dactylref10_Joined.bits8 (fun HT_ HW_ => ?_)
              generalize w18.drew = w19 at HO_3 BK276 HB hx277_0 hx277_1 hx277_2 hx277_3 hHeld ⊢
              refine pure_ (i := 0) (N := some 39) (v := ?_) (a' := ?_) #[true, false, false, false, false, false, false, false, false, false] rfl rfl (any_of HT_.out (by kernel_rfl)) (fun _ _ _ h => h) (Or.inl ⟨by rfl, ?_⟩) ?_ ?_
              rotate_left
              ·intro w'
               go_simp
               with_reducible rfl
              rotate_left
              ·simp only [Act.put, List.setIfInBounds_toArray, List.set_cons_zero, List.set_cons_succ, i64_w, i32_w]
               rfl
              refine pure_ (i := 2) (N := some 41) (v := ?_) (a' := ?_) #[true, false, true, false, false, false, false, false, false, false] rfl rfl (any_of HT_.out (by kernel_rfl)) (fun _ _ _ h => h) (Or.inl ⟨by rfl, ?_⟩) ?_ ?_
              rotate_left
              ·intro w'
               go_simp
               with_reducible rfl
              rotate_left
              ·simp only [Act.put, List.setIfInBounds_toArray, List.set_cons_zero, List.set_cons_succ, i64_w, i32_w]
               rfl
              refine pure_ (i := 3) (N := some 42) (v := ?_) (a' := ?_) #[true, false, true, true, false, false, false, false, false, false] rfl rfl (any_of HT_.out (by kernel_rfl)) (fun _ _ _ h => h) (Or.inl ⟨by rfl, ?_⟩) ?_ ?_
              rotate_left
              ·intro w'
               go_simp
               with_reducible rfl
              rotate_left
              ·simp only [Act.put, List.setIfInBounds_toArray, List.set_cons_zero, List.set_cons_succ, i64_w, i32_w]
               rfl
              refine pure_ (i := 4) (N := some 43) (v := ?_) (a' := ?_) #[true, false, true, true, true, false, false, false, false, false] rfl rfl (any_of HT_.out (by kernel_rfl)) (fun _ _ _ h => h) (Or.inl ⟨by rfl, ?_⟩) ?_ ?_
              rotate_left
              ·intro w'
               go_simp
               with_reducible rfl
              rotate_left
              ·simp only [Act.put, List.setIfInBounds_toArray, List.set_cons_zero, List.set_cons_succ, i64_w, i32_w]
               rfl
              refine pure_ (i := 5) (N := some 44) (v := ?_) (a' := ?_) #[true, false, true, true, true, true, false, false, false, false] rfl rfl (any_of HT_.out (by kernel_rfl)) (fun _ _ _ h => h) (Or.inl ⟨by rfl, ?_⟩) ?_ ?_
              rotate_left
              ·intro w'
               go_simp
               with_reducible rfl
              rotate_left
              ·simp only [Act.put, List.setIfInBounds_toArray, List.set_cons_zero, List.set_cons_succ, i64_w, i32_w]
               rfl
              refine take_ (i := 1) (N := some 40) (v := ?_) (a' := ?_) #[true, true, true, true, true, true, false, false, false, false] rfl rfl (take_ofW HT_.out HW_.out (by kernel_rfl)) (fun _ _ _ h => h) (Or.inl ⟨by rfl, ?_⟩) hHeld ?_ ?_
              rotate_left
              ·rintro w' ⟨s0, s1, s2, s3, s4, s5, s6, s7⟩
               go_simp
               with_reducible rfl
              rotate_left
              ·simp only [Act.put, List.setIfInBounds_toArray, List.set_cons_zero, List.set_cons_succ, i64_w, i32_w]
               rfl
              refine take_ (i := 6) (N := some 45) (v := ?_) (a' := ?_) #[true, true, true, true, true, true, true, false, false, false] rfl rfl (take_ofW HT_.out HW_.out (by kernel_rfl)) (fun _ _ _ h => h) (Or.inl ⟨by rfl, ?_⟩) hHeld ?_ ?_
              rotate_left
              ·rintro w' ⟨s0, s1, s2, s3, s4, s5, s6, s7⟩
               go_simp
               with_reducible rfl
              rotate_left
              ·simp only [Act.put, List.setIfInBounds_toArray, List.set_cons_zero, List.set_cons_succ, i64_w, i32_w]
               rfl
              refine pure_ (i := 7) (N := some 46) (v := ?_) (a' := ?_) #[true, true, true, true, true, true, true, true, false, false] rfl rfl (any_of HT_.out (by kernel_rfl)) (fun _ _ _ h => h) (Or.inl ⟨by rfl, ?_⟩) ?_ ?_
              rotate_left
              ·intro w'
               go_simp
               with_reducible rfl
              rotate_left
              ·simp only [Act.put, List.setIfInBounds_toArray, List.set_cons_zero, List.set_cons_succ, i64_w, i32_w]
               rfl
              refine pure_ (i := 8) (N := some 47) (v := ?_) (a' := ?_) #[true, true, true, true, true, true, true, true, true, false] rfl rfl (any_of HT_.out (by kernel_rfl)) (fun _ _ _ h => h) (Or.inl ⟨by rfl, ?_⟩) ?_ ?_
              rotate_left
              ·intro w'
               go_simp
               with_reducible rfl
              rotate_left
              ·simp only [Act.put, List.setIfInBounds_toArray, List.set_cons_zero, List.set_cons_succ, i64_w, i32_w]
               rfl
              refine last_ (i := 9) (N := none) #[true, true, true, true, true, true, true, true, true, true] rfl rfl (one_of HT_.out (by kernel_rfl)) (by decide) (fun K hK => ?_)
              have hs20 : w19.cell? ⟨gb276, 3, none⟩ = some (.string ((rd_T31 x3_1 (ji6)).f3)) := (blk_cell BK276.out 3).trans rfl
              have hfs20 := blk_frozen BK276.out 3
              refine skip_ (w1 := ?_) (by rfl) rfl ?_ ?_
              rotate_left
              ·go_simp
               rfl
              refine hK.out _ _ ?_
              clear hK K
              refine done_ (done_of HT_.out (by kernel_rfl)) ?_
              try go_wp2
              have n0_ : Aside0 (Kd.R k31 31 (w19.setCell ⟨gb276, 3, none⟩ (.string (((rd_T31 x3_1 (ji6)).f3) ++ ((rd_T31 l0 x4_1).f3)))) w.heap.size (fun k_ => k_ ≠ gb276) (.slice (some ad274) x3_1.length co15) x3_1) := ⟨by (with_reducible repeat (first | apply Kd.R_alloc | apply Kd.R_drewN | apply Kd.R_drew)); exact Kd.R_mono (Kd.R_far (p := ⟨gb276, 3, none⟩) (Kd.R_mono HO_3.out (fun k_ hk => (⟨hk, hk⟩ : _ ∧ k_ ≠ gb276))) (fun _ hk => hk.2) (.string (((rd_T31 x3_1 (ji6)).f3) ++ ((rd_T31 l0 x4_1).f3)))) (fun _ hk => hk.1)⟩
              have n1_ : Aside0 ((w19.setCell ⟨gb276, 3, none⟩ (.string (((rd_T31 x3_1 (ji6)).f3) ++ ((rd_T31 l0 x4_1).f3)))).heap[gb276]? = some (.cells #[.int .i64 ((rd_T31 x3_1 (ji6)).f0), .int .i64 ((rd_T31 x3_1 (ji6)).f1), .int .i64 ((rd_T31 x3_1 (ji6)).f2), .string (((rd_T31 x3_1 (ji6)).f3) ++ ((rd_T31 l0 x4_1).f3))] 31 (0, 0))) := ⟨by (with_reducible repeat (first | refine blk_drewN ?_ _ | refine blk_drew ?_ | refine blk_alloc ?_ _)); refine blk_put (cs := #[.int .i64 ((rd_T31 x3_1 (ji6)).f0), .int .i64 ((rd_T31 x3_1 (ji6)).f1), .int .i64 ((rd_T31 x3_1 (ji6)).f2), .string ((rd_T31 x3_1 (ji6)).f3)]) ?_ 3 _ rfl; (with_reducible repeat (first | refine blk_drewN ?_ _ | refine blk_drew ?_ | refine blk_alloc ?_ _)); exact BK276.out⟩
              have n2_ : Aside0 (Below w.heap.size w (w19.setCell ⟨gb276, 3, none⟩ (.string (((rd_T31 x3_1 (ji6)).f3) ++ ((rd_T31 l0 x4_1).f3))))) := ⟨by repeat (first | (with_reducible first | exact HB.out | apply below_alloc | apply pw_below_drewN | apply below_drew1 | refine below_set ?_ GE276.out) | exact HB.out)⟩
              (try clear HO_3)
              (try clear BK276)
              (try clear HB)
              generalize (w19.setCell ⟨gb276, 3, none⟩ (.string (((rd_T31 x3_1 (ji6)).f3) ++ ((rd_T31 l0 x4_1).f3)))) = w21 at n0_ n1_ n2_ ⊢
              have HO_3 := n0_
              have BK276 := n1_
              have HB := n2_
              clear n0_ n1_ n2_
              have n0_ := Aside0.mk (Kd.R_drew HO_3.out)
              have n1_ := Aside0.mk (blk_drew BK276.out)
              have n2_ := Aside0.mk (below_drew1 HB.out)
              clear HO_3
              clear BK276
              clear HB
              have HO_3 := n0_
              have BK276 := n1_
              have HB := n2_
              clear n0_ n1_ n2_
              have q23 : ((ji6) : Int) ≤ ((x3_1.length : Int) : Int) := of_decide_eq_true za
              obtain ⟨i023, hi023, _, hsz23, _⟩ := info_parts info31
              have hroom23 : x3_1.length ≤ co15 := (Kd.R_reads' HO_3.out).2.1
              have hC23 : Kd.C k31 _ (some ad274) x3_1.length x3_1 := (Kd.R_reads' HO_3.out).2.2
              have hcut23 := cut_to (P := Try.prog) 22 31 .i64 Try.underlying22 hi023 (some ad274) x3_1.length co15 (ji6) (of_decide_eq_true za) q23 hroom23
              have hr23 := Kd.C_take (m := ((ji6) : Int).toNat) hC23 (by omega)
              have hy23 : y281.length = ((ji6) : Int).toNat := (by rw [Ny281.out, List.length_take]; omega)
              rw [← Ny281.out] at hr23
              rw [← hy23] at hcut23
              have HR284 := Aside0.mk hr23
              have HC284 := Aside0.mk (show y281.length ≤ co15 from by omega)
              clear hr23 hC23 hroom23 hi023 hsz23
              have KY23 := Aside0.mk hy23
              clear hy23
              have KL23 := Aside0.mk (show ((ji6) : Int).toNat ≤ x3_1.length from by omega)
              replace q23 := eq_true q23
              refine start_ (n := 10) (S := fun w' => w'.cell? ⟨gb276, 0, none⟩ = some (.int .i64 ((rd_T31 x3_1 (ji6)).f0)) ∧ w'.cell? ⟨gb276, 1, none⟩ = some (.int .i64 ((rd_T31 x3_1 (ji6)).f1)) ∧ w'.cell? ⟨gb276, 2, none⟩ = some (.int .i64 ((rd_T31 x3_1 (ji6)).f2)) ∧ w'.cell? ⟨gb276, 3, none⟩ = some (.string (((rd_T31 x3_1 (ji6)).f3) ++ ((rd_T31 l0 x4_1).f3)))) (ds := []) #[false, false, false, false, false, false, false, false, false, false] (by kernel_rfl) rfl rfl ⟨(blk_cell BK276.out 0).trans rfl, (blk_cell BK276.out 1).trans rfl, (blk_cell BK276.out 2).trans rfl, (blk_cell BK276.out 3).trans rfl⟩ (fun hHeld => ?_); refine with_tabW dactylref10_Joined.tab9 dactylref10_Joined.bits9 (fun HT_ HW_ => ?_)
              generalize w21.drew = w22 at HO_3 BK276 HB HR284 hHeld ⊢
              refine pure_ (i := 1) (N := some 49) (v := ?_) (a' := ?_) #[false, true, false, false, false, false, false, false, false, false] rfl rfl (any_of HT_.out (by kernel_rfl)) (fun _ _ _ h => h) (Or.inl ⟨by rfl, ?_⟩) ?_ ?_
              rotate_left
              ·intro w'
               go_simp
               with_reducible rfl
              rotate_left
              ·simp only [Act.put, List.setIfInBounds_toArray, List.set_cons_zero, List.set_cons_succ, i64_w, i32_w]
               rfl
              refine pure_ (i := 2) (N := some 50) (v := ?_) (a' := ?_) #[false, true, true, false, false, false, false, false, false, false] rfl rfl (any_of HT_.out (by kernel_rfl)) (fun _ _ _ h => h) (Or.inl ⟨by rfl, ?_⟩) ?_ ?_
              rotate_left
              ·intro w'
               go_simp
               with_reducible rfl
              rotate_left
              ·simp only [Act.put, List.setIfInBounds_toArray, List.set_cons_zero, List.set_cons_succ, i64_w, i32_w]
               rfl
              refine pure_ (i := 3) (N := some 51) (v := ?_) (a' := ?_) #[false, true, true, true, false, false, false, false, false, false] rfl rfl (any_of HT_.out (by kernel_rfl)) (fun _ _ _ h => h) (Or.inl ⟨by rfl, ?_⟩) ?_ ?_
              rotate_left
              ·intro w'
               go_simp
               with_reducible rfl
              rotate_left
              ·simp only [Act.put, List.setIfInBounds_toArray, List.set_cons_zero, List.set_cons_succ, i64_w, i32_w]
               rfl
              refine pure_ (i := 4) (N := some 52) (v := ?_) (a' := ?_) #[false, true, true, true, true, false, false, false, false, false] rfl rfl (any_of HT_.out (by kernel_rfl)) (fun _ _ _ h => h) (Or.inl ⟨by rfl, ?_⟩) ?_ ?_
              rotate_left
              ·intro w'
               go_simp
               with_reducible rfl
              rotate_left
              ·simp only [Act.put, List.setIfInBounds_toArray, List.set_cons_zero, List.set_cons_succ, i64_w, i32_w]
               rfl
              refine take_ (i := 6) (N := some 54) (v := ?_) (a' := ?_) #[false, true, true, true, true, false, true, false, false, false] rfl rfl (take_ofW HT_.out HW_.out (by kernel_rfl)) (fun _ _ _ h => h) (Or.inl ⟨by rfl, ?_⟩) hHeld ?_ ?_
              rotate_left
              ·rintro w' ⟨s0, s1, s2, s3⟩
               go_simp
               with_reducible rfl
              rotate_left
              ·simp only [Act.put, List.setIfInBounds_toArray, List.set_cons_zero, List.set_cons_succ, i64_w, i32_w]
               rfl
              refine join_ (σ := Value × Value × Value) 2 #[true, true, true, true, true, true, true, true, false, false] (fun s_ => [(48, s_.1), (53, s_.2.1), (55, s_.2.2)]) (fun s_ w' => (w'.cell? ⟨gb276, 0, none⟩ = some (.int .i64 ((rd_T31 x3_1 (ji6)).f0)) ∧ w'.cell? ⟨gb276, 1, none⟩ = some (.int .i64 ((rd_T31 x3_1 (ji6)).f1)) ∧ w'.cell? ⟨gb276, 2, none⟩ = some (.int .i64 ((rd_T31 x3_1 (ji6)).f2)) ∧ w'.cell? ⟨gb276, 3, none⟩ = some (.string (((rd_T31 x3_1 (ji6)).f3) ++ ((rd_T31 l0 x4_1).f3)))) ∧ (Kd.R k31 31 w' w.heap.size (fun k_ => some k_ ≠ (s_.2.2 : Value).ownBlock ∧ some k_ ≠ (.slice (some ad274) x3_1.length co15 : Value).ownBlock ∧ k_ ≠ gb276) s_.2.1 y285) ∧ (Kd.R k31 31 w' w.heap.size (fun k_ => some k_ ≠ (s_.2.1 : Value).ownBlock ∧ some k_ ≠ (.slice (some ad274) x3_1.length co15 : Value).ownBlock ∧ k_ ≠ gb276) s_.2.2 y288) ∧ (Kd.R k31 31 w' w.heap.size (fun k_ => some k_ ≠ (s_.2.1 : Value).ownBlock ∧ some k_ ≠ (s_.2.2 : Value).ownBlock ∧ k_ ≠ gb276) (.slice (some ad274) x3_1.length co15) x3_1) ∧ (w'.heap[gb276]? = some (.cells #[.int .i64 ((rd_T31 x3_1 (ji6)).f0), .int .i64 ((rd_T31 x3_1 (ji6)).f1), .int .i64 ((rd_T31 x3_1 (ji6)).f2), .string (((rd_T31 x3_1 (ji6)).f3) ++ ((rd_T31 l0 x4_1).f3))] 31 (0, 0))) ∧ (Below w.heap.size w w')) ?_ ?_
              rotate_left
              ·intro hCont
               refine two_ (i := 0) (j := 7) (Ni := some 48) (Nj := some 55) #[true, true, true, true, true, false, true, false, false, false] #[false, true, true, true, true, false, true, true, false, false] rfl rfl rfl rfl (two_of HT_.out (by kernel_rfl)) (by decide) (by decide) (fun K hK => ?_) (fun K hK => ?_)
               ·skip
                refine Kd.R_lit_step k31 _ 31 ?hg (N := 48) ?hd (xs := ([] : List (S31))) (inner := []) (ok := fun _ => True) (okp := fun _ => True) ?hr ?hp (fun _ hk => hk) trivial (Below.refl _ _) (Nat.le_refl _) (by simp) ?_; (case hd => rfl); (case hg => rfl); (case hr => first | (go_simp; done) | (go_simp; rfl)); (case hp => exact (Reps.none _ _))
                intro v279 w24 ho25 hb hg_ hnew_
                clear hg_ hnew_
                (first | rw [← Ny278.out] at ho25 | (simp only [Int.reduceToNat] at ho25; rw [← Ny278.out] at ho25))
                have n0_ := Aside0.mk (Kd.R_elder' (zk HO_3.out) (Kd.R_base ho25) hb)
                have n1_ := Aside0.mk (Kd.R_lower (Kd.R_newB (Kd.R_new' ho25 (Kd.R_lt (zk HO_3.out))) (g := gb276) (o := .cells #[.int .i64 ((rd_T31 x3_1 (ji6)).f0), .int .i64 ((rd_T31 x3_1 (ji6)).f1), .int .i64 ((rd_T31 x3_1 (ji6)).f2), .string (((rd_T31 x3_1 (ji6)).f3) ++ ((rd_T31 l0 x4_1).f3))] 31 (0, 0)) (zj BK276.out)) (below_size (by repeat (first | (with_reducible first | exact HB.out | apply below_alloc | apply pw_below_drewN | apply below_drew1 | refine below_set ?_ GE276.out) | exact HB.out))))
                have n2_ := Aside0.mk (blk_below (g := gb276) (o := .cells #[.int .i64 ((rd_T31 x3_1 (ji6)).f0), .int .i64 ((rd_T31 x3_1 (ji6)).f1), .int .i64 ((rd_T31 x3_1 (ji6)).f2), .string (((rd_T31 x3_1 (ji6)).f3) ++ ((rd_T31 l0 x4_1).f3))] 31 (0, 0)) (zj BK276.out) hb)
                have n3_ := Aside0.mk (Kd.C_below (by repeat (first | (with_reducible exact HR284.out) | (with_reducible refine Kd.C_alloc ?_ _) | (with_reducible refine Kd.C_drewN ?_ _) | (with_reducible refine Kd.C_drew ?_) | exact HR284.out)) hb)
                have n4_ := Aside0.mk (below_step (by repeat (first | (with_reducible first | exact HB.out | apply below_alloc | apply pw_below_drewN | apply below_drew1 | refine below_set ?_ GE276.out) | exact HB.out)) hb)
                clear HO_3
                clear BK276
                clear HR284
                clear HB
                have HO_3 := n0_
                have HO280 := n1_
                have BK276 := n2_
                have HR284 := n3_
                have HB := n4_
                clear n0_ n1_ n2_ n3_ n4_
                clear hb ho25
                refine hK.out _ _ ⟨(blk_cell BK276.out 0).trans rfl, (blk_cell BK276.out 1).trans rfl, (blk_cell BK276.out 2).trans rfl, (blk_cell BK276.out 3).trans rfl⟩ (fun hHeld => ?_)
                clear hK K
                refine norm_ (a' := ?_) ?_ ?_
                rotate_left
                ·show Act.put _ (some 48) _ = _
                 simp only [Act.put, List.setIfInBounds_toArray, List.set_cons_zero, List.set_cons_succ, i64_w, i32_w]
                 rfl
                refine two_ (i := 5) (j := 7) (Ni := some 53) (Nj := some 55) #[true, true, true, true, true, true, true, false, false, false] #[true, true, true, true, true, false, true, true, false, false] rfl rfl rfl rfl (two_of HT_.out (by kernel_rfl)) (by decide) (by decide) (fun K hK => ?_) (fun K hK => ?_)
                ·skip
                 refine Kd.R_append_rows_step k31 (w0 := w) w.heap.size (by rfl) (.tmp 48) (.tmp 52) 22 31 (.agg #[(.int .i64 0), (.int .i64 0), (.int .i64 0), (.string ⟨#[]⟩)]) 40 rfl Try.underlying22 info31 rfl (by decide) (by omega) v279 y278 y281 _ _ _ (fun k_ => some k_ ≠ (.slice (some ad274) x3_1.length co15 : Value).ownBlock ∧ k_ ≠ gb276) (fun _ => False) rfl rfl ?aO ?aR (fun _ _ h => h) (fun _ h => h.elim) ?aF ?aB ?aS ?aL ?_
                 (case aR => repeat (first | exact (by repeat (first | (with_reducible exact HR284.out) | (with_reducible refine Kd.C_alloc ?_ _) | (with_reducible refine Kd.C_drewN ?_ _) | (with_reducible refine Kd.C_drew ?_) | exact HR284.out)) | (with_reducible refine Kd.C_alloc ?_ _) | (with_reducible refine Kd.C_drewN ?_ _) | (with_reducible refine Kd.C_drew ?_)))
                 (case aB => exact (by repeat (first | (with_reducible first | exact HB.out | apply below_alloc | apply pw_below_drewN | apply below_drew1 | refine below_set ?_ GE276.out) | exact HB.out)))
                 (case aF => exact (fun k_ hk => ⟨Kd.fresh' (Kd.R_lt (zk HO_3.out)) k_ hk, Kd.freshB (g := gb276) (o := .cells #[.int .i64 ((rd_T31 x3_1 (ji6)).f0), .int .i64 ((rd_T31 x3_1 (ji6)).f1), .int .i64 ((rd_T31 x3_1 (ji6)).f2), .string (((rd_T31 x3_1 (ji6)).f3) ++ ((rd_T31 l0 x4_1).f3))] 31 (0, 0)) (zj BK276.out) k_ hk⟩))
                 (case aO => exact (by (with_reducible repeat (first | apply Kd.R_alloc | apply Kd.R_drewN | apply Kd.R_drew)); exact Kd.R_mono HO280.out (fun _ hk => ⟨hk.1.2, hk.2⟩)))
                 (case aS => exact (below_size (by repeat (first | (with_reducible first | exact HB.out | apply below_alloc | apply pw_below_drewN | apply below_drew1 | refine below_set ?_ GE276.out) | exact HB.out))))
                 (case aL => have := LMc13.out; omega)
                 intro v286 w26 ho hb hg hat
                 rw [← Ny285.out] at ho
                 have n0_ := Aside0.mk (Kd.R_after (ok := (fun k_ => k_ ≠ gb276)) (zk HO_3.out) hg hat)
                 have n1_ := Aside0.mk (blk_grown (g := gb276) (o := .cells #[.int .i64 ((rd_T31 x3_1 (ji6)).f0), .int .i64 ((rd_T31 x3_1 (ji6)).f1), .int .i64 ((rd_T31 x3_1 (ji6)).f2), .string (((rd_T31 x3_1 (ji6)).f3) ++ ((rd_T31 l0 x4_1).f3))] 31 (0, 0)) (zj BK276.out) hg (Kd.R_away HO280.out (fun _ hk => hk.2)))
                 have n2_ := Aside0.mk (hb)
                 have n3_ := Aside0.mk ((show Kd.C k31 w26 (some ad274) y281.length y281 from by rw [Ny281.out]; exact Kd.C_take (m := ((ji6) : Int).toNat) ((Kd.R_reads' (Kd.R_after (ok := (fun k_ => k_ ≠ gb276)) (zk HO_3.out) hg hat)).2.2) KL23.out))
                 have n4_ := Aside0.mk (ho)
                 clear HO_3
                 clear BK276
                 clear HB
                 clear HR284
                 clear HO280
                 have HO_3 := n0_
                 have BK276 := n1_
                 have HB := n2_
                 have HR284 := n3_
                 have HO287 := n4_
                 clear n0_ n1_ n2_ n3_ n4_
                 clear ho hb hg hat
                 refine hK.out _ _ ⟨(blk_cell BK276.out 0).trans rfl, (blk_cell BK276.out 1).trans rfl, (blk_cell BK276.out 2).trans rfl, (blk_cell BK276.out 3).trans rfl⟩ (fun hHeld => ?_)
                 clear hK K
                 refine norm_ (a' := ?_) ?_ ?_
                 rotate_left
                 ·show Act.put _ (some 53) _ = _
                  simp only [Act.put, List.setIfInBounds_toArray, List.set_cons_zero, List.set_cons_succ, i64_w, i32_w]
                  rfl
                 refine one_ (i := 7) (N := some 55) #[true, true, true, true, true, true, true, true, false, false] rfl rfl (one_of HT_.out (by kernel_rfl)) (by decide) (fun K hK => ?_)
                 refine Kd.R_lit_step k31 _ 31 ?hg (N := 55) ?hd (xs := ([(⟨(rd_T31 x3_1 (ji6)).f0, (rd_T31 x3_1 (ji6)).f1, (rd_T31 x3_1 (ji6)).f2, ((rd_T31 x3_1 (ji6)).f3) ++ ((rd_T31 l0 x4_1).f3)⟩ : S31)] : List (S31))) (inner := [.int .i64 ((rd_T31 x3_1 (ji6)).f0), .int .i64 ((rd_T31 x3_1 (ji6)).f1), .int .i64 ((rd_T31 x3_1 (ji6)).f2), .string (((rd_T31 x3_1 (ji6)).f3) ++ ((rd_T31 l0 x4_1).f3))]) (ok := fun _ => True) (okp := fun _ => True) ?hr ?hp (fun _ hk => hk) trivial (Below.refl _ _) (Nat.le_refl _) (by simp) ?_; (case hd => rfl); (case hg => rfl); (case hr => first | (go_simp; done) | (go_simp; rfl)); (case hp => exact (Reps.c4 (show Kd.M k31 _ _ _ (⟨(rd_T31 x3_1 (ji6)).f0, (rd_T31 x3_1 (ji6)).f1, (rd_T31 x3_1 (ji6)).f2, ((rd_T31 x3_1 (ji6)).f3) ++ ((rd_T31 l0 x4_1).f3)⟩ : S31) [.int .i64 ((rd_T31 x3_1 (ji6)).f0), .int .i64 ((rd_T31 x3_1 (ji6)).f1), .int .i64 ((rd_T31 x3_1 (ji6)).f2), .string (((rd_T31 x3_1 (ji6)).f3) ++ ((rd_T31 l0 x4_1).f3))] from (k31_mkM _ _ _ (⟨(rd_T31 x3_1 (ji6)).f0, (rd_T31 x3_1 (ji6)).f1, (rd_T31 x3_1 (ji6)).f2, ((rd_T31 x3_1 (ji6)).f3) ++ ((rd_T31 l0 x4_1).f3)⟩ : S31) )) (Reps.none _ _)))
                 intro v289 w27 ho28 hb hg_ hnew_
                 clear hg_ hnew_
                 (first | rw [← Ny288.out] at ho28 | (simp only [Int.reduceToNat] at ho28; rw [← Ny288.out] at ho28))
                 have n0_ := Aside0.mk (Kd.R_elder' (zk HO_3.out) (Kd.R_base ho28) hb)
                 have n1_ := Aside0.mk (Kd.R_elder' (zk HO287.out) (Kd.R_base ho28) hb)
                 have n2_ := Aside0.mk (Kd.R_lower (Kd.R_newB (Kd.R_new' (Kd.R_new' ho28 (Kd.R_lt (zk HO_3.out))) (Kd.R_lt (zk HO287.out))) (g := gb276) (o := .cells #[.int .i64 ((rd_T31 x3_1 (ji6)).f0), .int .i64 ((rd_T31 x3_1 (ji6)).f1), .int .i64 ((rd_T31 x3_1 (ji6)).f2), .string (((rd_T31 x3_1 (ji6)).f3) ++ ((rd_T31 l0 x4_1).f3))] 31 (0, 0)) (zj BK276.out)) (below_size (by repeat (first | (with_reducible first | exact HB.out | apply below_alloc | apply pw_below_drewN | apply below_drew1 | refine below_set ?_ GE276.out) | exact HB.out))))
                 have n3_ := Aside0.mk (blk_below (g := gb276) (o := .cells #[.int .i64 ((rd_T31 x3_1 (ji6)).f0), .int .i64 ((rd_T31 x3_1 (ji6)).f1), .int .i64 ((rd_T31 x3_1 (ji6)).f2), .string (((rd_T31 x3_1 (ji6)).f3) ++ ((rd_T31 l0 x4_1).f3))] 31 (0, 0)) (zj BK276.out) hb)
                 have n4_ := Aside0.mk (Kd.C_below (by repeat (first | (with_reducible exact HR284.out) | (with_reducible refine Kd.C_alloc ?_ _) | (with_reducible refine Kd.C_drewN ?_ _) | (with_reducible refine Kd.C_drew ?_) | exact HR284.out)) hb)
                 have n5_ := Aside0.mk (below_step (by repeat (first | (with_reducible first | exact HB.out | apply below_alloc | apply pw_below_drewN | apply below_drew1 | refine below_set ?_ GE276.out) | exact HB.out)) hb)
                 clear HO_3
                 clear HO287
                 clear BK276
                 clear HR284
                 clear HB
                 have HO_3 := n0_
                 have HO287 := n1_
                 have HO290 := n2_
                 have BK276 := n3_
                 have HR284 := n4_
                 have HB := n5_
                 clear n0_ n1_ n2_ n3_ n4_ n5_
                 clear hb ho28
                 refine hK.out _ _ ⟨(blk_cell BK276.out 0).trans rfl, (blk_cell BK276.out 1).trans rfl, (blk_cell BK276.out 2).trans rfl, (blk_cell BK276.out 3).trans rfl⟩ (fun hHeld => ?_)
                 clear hK K
                 refine norm_ (a' := ?_) ?_ ?_
                 rotate_left
                 ·show Act.put _ (some 55) _ = _
                  simp only [Act.put, List.setIfInBounds_toArray, List.set_cons_zero, List.set_cons_succ, i64_w, i32_w]
                  rfl
                 exact norm_ (by simp only [putAll, Act.put, List.setIfInBounds_toArray, List.set_cons_zero, List.set_cons_succ]) (hCont (v279, v286, v289) _ ⟨hHeld, (by (with_reducible repeat (first | apply Kd.R_alloc | apply Kd.R_drewN | apply Kd.R_drew)); exact Kd.R_mono HO287.out (fun _ hk => ⟨hk.2, ⟨hk.1.1, hk.1.2⟩⟩)), (by (with_reducible repeat (first | apply Kd.R_alloc | apply Kd.R_drewN | apply Kd.R_drew)); exact Kd.R_mono HO290.out (fun _ hk => ⟨hk.1.2, ⟨hk.1.1.2, hk.2⟩⟩)), (by (with_reducible repeat (first | apply Kd.R_alloc | apply Kd.R_drewN | apply Kd.R_drew)); exact Kd.R_mono HO_3.out (fun _ hk => ⟨hk.1.2, ⟨hk.2, hk.1.1⟩⟩)), (zj BK276.out), (by repeat (first | (with_reducible first | exact HB.out | apply below_alloc | apply pw_below_drewN | apply below_drew1 | refine below_set ?_ GE276.out) | exact HB.out))⟩)
                ·skip
                 refine Kd.R_lit_step k31 _ 31 ?hg (N := 55) ?hd (xs := ([(⟨(rd_T31 x3_1 (ji6)).f0, (rd_T31 x3_1 (ji6)).f1, (rd_T31 x3_1 (ji6)).f2, ((rd_T31 x3_1 (ji6)).f3) ++ ((rd_T31 l0 x4_1).f3)⟩ : S31)] : List (S31))) (inner := [.int .i64 ((rd_T31 x3_1 (ji6)).f0), .int .i64 ((rd_T31 x3_1 (ji6)).f1), .int .i64 ((rd_T31 x3_1 (ji6)).f2), .string (((rd_T31 x3_1 (ji6)).f3) ++ ((rd_T31 l0 x4_1).f3))]) (ok := fun _ => True) (okp := fun _ => True) ?hr ?hp (fun _ hk => hk) trivial (Below.refl _ _) (Nat.le_refl _) (by simp) ?_; (case hd => rfl); (case hg => rfl); (case hr => first | (go_simp; done) | (go_simp; rfl)); (case hp => exact (Reps.c4 (show Kd.M k31 _ _ _ (⟨(rd_T31 x3_1 (ji6)).f0, (rd_T31 x3_1 (ji6)).f1, (rd_T31 x3_1 (ji6)).f2, ((rd_T31 x3_1 (ji6)).f3) ++ ((rd_T31 l0 x4_1).f3)⟩ : S31) [.int .i64 ((rd_T31 x3_1 (ji6)).f0), .int .i64 ((rd_T31 x3_1 (ji6)).f1), .int .i64 ((rd_T31 x3_1 (ji6)).f2), .string (((rd_T31 x3_1 (ji6)).f3) ++ ((rd_T31 l0 x4_1).f3))] from (k31_mkM _ _ _ (⟨(rd_T31 x3_1 (ji6)).f0, (rd_T31 x3_1 (ji6)).f1, (rd_T31 x3_1 (ji6)).f2, ((rd_T31 x3_1 (ji6)).f3) ++ ((rd_T31 l0 x4_1).f3)⟩ : S31) )) (Reps.none _ _)))
                 intro v289 w26 ho27 hb hg_ hnew_
                 clear hg_ hnew_
                 (first | rw [← Ny288.out] at ho27 | (simp only [Int.reduceToNat] at ho27; rw [← Ny288.out] at ho27))
                 have n0_ := Aside0.mk (Kd.R_elder' (zk HO_3.out) (Kd.R_base ho27) hb)
                 have n1_ := Aside0.mk (Kd.R_elder' (zk HO280.out) (Kd.R_base ho27) hb)
                 have n2_ := Aside0.mk (Kd.R_lower (Kd.R_newB (Kd.R_new' (Kd.R_new' ho27 (Kd.R_lt (zk HO_3.out))) (Kd.R_lt (zk HO280.out))) (g := gb276) (o := .cells #[.int .i64 ((rd_T31 x3_1 (ji6)).f0), .int .i64 ((rd_T31 x3_1 (ji6)).f1), .int .i64 ((rd_T31 x3_1 (ji6)).f2), .string (((rd_T31 x3_1 (ji6)).f3) ++ ((rd_T31 l0 x4_1).f3))] 31 (0, 0)) (zj BK276.out)) (below_size (by repeat (first | (with_reducible first | exact HB.out | apply below_alloc | apply pw_below_drewN | apply below_drew1 | refine below_set ?_ GE276.out) | exact HB.out))))
                 have n3_ := Aside0.mk (blk_below (g := gb276) (o := .cells #[.int .i64 ((rd_T31 x3_1 (ji6)).f0), .int .i64 ((rd_T31 x3_1 (ji6)).f1), .int .i64 ((rd_T31 x3_1 (ji6)).f2), .string (((rd_T31 x3_1 (ji6)).f3) ++ ((rd_T31 l0 x4_1).f3))] 31 (0, 0)) (zj BK276.out) hb)
                 have n4_ := Aside0.mk (Kd.C_below (by repeat (first | (with_reducible exact HR284.out) | (with_reducible refine Kd.C_alloc ?_ _) | (with_reducible refine Kd.C_drewN ?_ _) | (with_reducible refine Kd.C_drew ?_) | exact HR284.out)) hb)
                 have n5_ := Aside0.mk (below_step (by repeat (first | (with_reducible first | exact HB.out | apply below_alloc | apply pw_below_drewN | apply below_drew1 | refine below_set ?_ GE276.out) | exact HB.out)) hb)
                 clear HO_3
                 clear HO280
                 clear BK276
                 clear HR284
                 clear HB
                 have HO_3 := n0_
                 have HO280 := n1_
                 have HO290 := n2_
                 have BK276 := n3_
                 have HR284 := n4_
                 have HB := n5_
                 clear n0_ n1_ n2_ n3_ n4_ n5_
                 clear hb ho27
                 refine hK.out _ _ ⟨(blk_cell BK276.out 0).trans rfl, (blk_cell BK276.out 1).trans rfl, (blk_cell BK276.out 2).trans rfl, (blk_cell BK276.out 3).trans rfl⟩ (fun hHeld => ?_)
                 clear hK K
                 refine norm_ (a' := ?_) ?_ ?_
                 rotate_left
                 ·show Act.put _ (some 55) _ = _
                  simp only [Act.put, List.setIfInBounds_toArray, List.set_cons_zero, List.set_cons_succ, i64_w, i32_w]
                  rfl
                 refine one_ (i := 5) (N := some 53) #[true, true, true, true, true, true, true, true, false, false] rfl rfl (one_of HT_.out (by kernel_rfl)) (by decide) (fun K hK => ?_)
                 refine Kd.R_append_rows_step k31 (w0 := w) w.heap.size (by rfl) (.tmp 48) (.tmp 52) 22 31 (.agg #[(.int .i64 0), (.int .i64 0), (.int .i64 0), (.string ⟨#[]⟩)]) 40 rfl Try.underlying22 info31 rfl (by decide) (by omega) v279 y278 y281 _ _ _ (fun k_ => some k_ ≠ (.slice (some ad274) x3_1.length co15 : Value).ownBlock ∧ some k_ ≠ (v289 : Value).ownBlock ∧ k_ ≠ gb276) (fun _ => False) rfl rfl ?aO ?aR (fun _ _ h => h) (fun _ h => h.elim) ?aF ?aB ?aS ?aL ?_
                 (case aR => repeat (first | exact (by repeat (first | (with_reducible exact HR284.out) | (with_reducible refine Kd.C_alloc ?_ _) | (with_reducible refine Kd.C_drewN ?_ _) | (with_reducible refine Kd.C_drew ?_) | exact HR284.out)) | (with_reducible refine Kd.C_alloc ?_ _) | (with_reducible refine Kd.C_drewN ?_ _) | (with_reducible refine Kd.C_drew ?_)))
                 (case aB => exact (by repeat (first | (with_reducible first | exact HB.out | apply below_alloc | apply pw_below_drewN | apply below_drew1 | refine below_set ?_ GE276.out) | exact HB.out)))
                 (case aF => exact (fun k_ hk => ⟨Kd.fresh' (Kd.R_lt (zk HO_3.out)) k_ hk, Kd.fresh' (Kd.R_lt (zk HO290.out)) k_ hk, Kd.freshB (g := gb276) (o := .cells #[.int .i64 ((rd_T31 x3_1 (ji6)).f0), .int .i64 ((rd_T31 x3_1 (ji6)).f1), .int .i64 ((rd_T31 x3_1 (ji6)).f2), .string (((rd_T31 x3_1 (ji6)).f3) ++ ((rd_T31 l0 x4_1).f3))] 31 (0, 0)) (zj BK276.out) k_ hk⟩))
                 (case aO => exact (by (with_reducible repeat (first | apply Kd.R_alloc | apply Kd.R_drewN | apply Kd.R_drew)); exact Kd.R_mono HO280.out (fun _ hk => ⟨hk.1.1.2, ⟨hk.2, hk.1.2⟩⟩)))
                 (case aS => exact (below_size (by repeat (first | (with_reducible first | exact HB.out | apply below_alloc | apply pw_below_drewN | apply below_drew1 | refine below_set ?_ GE276.out) | exact HB.out))))
                 (case aL => have := LMc13.out; omega)
                 intro v286 w28 ho hb hg hat
                 rw [← Ny285.out] at ho
                 have n0_ := Aside0.mk (Kd.R_after (ok := (fun k_ => some k_ ≠ (v289 : Value).ownBlock ∧ k_ ≠ gb276)) (by (with_reducible repeat (first | apply Kd.R_alloc | apply Kd.R_drewN | apply Kd.R_drew)); exact Kd.R_mono HO_3.out (fun _ hk => ⟨⟨hk.2, hk.1.1⟩, hk.1.2⟩)) hg hat)
                 have n1_ := Aside0.mk (blk_grown (g := gb276) (o := .cells #[.int .i64 ((rd_T31 x3_1 (ji6)).f0), .int .i64 ((rd_T31 x3_1 (ji6)).f1), .int .i64 ((rd_T31 x3_1 (ji6)).f2), .string (((rd_T31 x3_1 (ji6)).f3) ++ ((rd_T31 l0 x4_1).f3))] 31 (0, 0)) (zj BK276.out) hg (Kd.R_away HO280.out (fun _ hk => hk.1.2)))
                 have n2_ := Aside0.mk (Kd.R_after (ok := (fun k_ => some k_ ≠ (.slice (some ad274) x3_1.length co15 : Value).ownBlock ∧ k_ ≠ gb276)) (by (with_reducible repeat (first | apply Kd.R_alloc | apply Kd.R_drewN | apply Kd.R_drew)); exact Kd.R_mono HO290.out (fun _ hk => ⟨⟨hk.1.1.2, hk.2⟩, hk.1.2⟩)) hg hat)
                 have n3_ := Aside0.mk (hb)
                 have n4_ := Aside0.mk ((show Kd.C k31 w28 (some ad274) y281.length y281 from by rw [Ny281.out]; exact Kd.C_take (m := ((ji6) : Int).toNat) ((Kd.R_reads' (Kd.R_after (ok := (fun k_ => some k_ ≠ (v289 : Value).ownBlock ∧ k_ ≠ gb276)) (by (with_reducible repeat (first | apply Kd.R_alloc | apply Kd.R_drewN | apply Kd.R_drew)); exact Kd.R_mono HO_3.out (fun _ hk => ⟨⟨hk.2, hk.1.1⟩, hk.1.2⟩)) hg hat)).2.2) KL23.out))
                 have n5_ := Aside0.mk (ho)
                 clear HO_3
                 clear BK276
                 clear HO290
                 clear HB
                 clear HR284
                 clear HO280
                 have HO_3 := n0_
                 have BK276 := n1_
                 have HO290 := n2_
                 have HB := n3_
                 have HR284 := n4_
                 have HO287 := n5_
                 clear n0_ n1_ n2_ n3_ n4_ n5_
                 clear ho hb hg hat
                 refine hK.out _ _ ⟨(blk_cell BK276.out 0).trans rfl, (blk_cell BK276.out 1).trans rfl, (blk_cell BK276.out 2).trans rfl, (blk_cell BK276.out 3).trans rfl⟩ (fun hHeld => ?_)
                 clear hK K
                 refine norm_ (a' := ?_) ?_ ?_
                 rotate_left
                 ·show Act.put _ (some 53) _ = _
                  simp only [Act.put, List.setIfInBounds_toArray, List.set_cons_zero, List.set_cons_succ, i64_w, i32_w]
                  rfl
                 exact norm_ (by simp only [putAll, Act.put, List.setIfInBounds_toArray, List.set_cons_zero, List.set_cons_succ]) (hCont (v279, v286, v289) _ ⟨hHeld, (by (with_reducible repeat (first | apply Kd.R_alloc | apply Kd.R_drewN | apply Kd.R_drew)); exact Kd.R_mono HO287.out (fun _ hk => ⟨hk.2.1, ⟨hk.1, hk.2.2⟩⟩)), (by (with_reducible repeat (first | apply Kd.R_alloc | apply Kd.R_drewN | apply Kd.R_drew)); exact Kd.R_mono HO290.out (fun _ hk => ⟨hk.2, ⟨hk.1.1, hk.1.2⟩⟩)), (by (with_reducible repeat (first | apply Kd.R_alloc | apply Kd.R_drewN | apply Kd.R_drew)); exact Kd.R_mono HO_3.out (fun _ hk => ⟨hk.2, ⟨hk.1.1, hk.1.2⟩⟩)), (zj BK276.out), (by repeat (first | (with_reducible first | exact HB.out | apply below_alloc | apply pw_below_drewN | apply below_drew1 | refine below_set ?_ GE276.out) | exact HB.out))⟩)
               ·skip
                refine Kd.R_lit_step k31 _ 31 ?hg (N := 55) ?hd (xs := ([(⟨(rd_T31 x3_1 (ji6)).f0, (rd_T31 x3_1 (ji6)).f1, (rd_T31 x3_1 (ji6)).f2, ((rd_T31 x3_1 (ji6)).f3) ++ ((rd_T31 l0 x4_1).f3)⟩ : S31)] : List (S31))) (inner := [.int .i64 ((rd_T31 x3_1 (ji6)).f0), .int .i64 ((rd_T31 x3_1 (ji6)).f1), .int .i64 ((rd_T31 x3_1 (ji6)).f2), .string (((rd_T31 x3_1 (ji6)).f3) ++ ((rd_T31 l0 x4_1).f3))]) (ok := fun _ => True) (okp := fun _ => True) ?hr ?hp (fun _ hk => hk) trivial (Below.refl _ _) (Nat.le_refl _) (by simp) ?_; (case hd => rfl); (case hg => rfl); (case hr => first | (go_simp; done) | (go_simp; rfl)); (case hp => exact (Reps.c4 (show Kd.M k31 _ _ _ (⟨(rd_T31 x3_1 (ji6)).f0, (rd_T31 x3_1 (ji6)).f1, (rd_T31 x3_1 (ji6)).f2, ((rd_T31 x3_1 (ji6)).f3) ++ ((rd_T31 l0 x4_1).f3)⟩ : S31) [.int .i64 ((rd_T31 x3_1 (ji6)).f0), .int .i64 ((rd_T31 x3_1 (ji6)).f1), .int .i64 ((rd_T31 x3_1 (ji6)).f2), .string (((rd_T31 x3_1 (ji6)).f3) ++ ((rd_T31 l0 x4_1).f3))] from (k31_mkM _ _ _ (⟨(rd_T31 x3_1 (ji6)).f0, (rd_T31 x3_1 (ji6)).f1, (rd_T31 x3_1 (ji6)).f2, ((rd_T31 x3_1 (ji6)).f3) ++ ((rd_T31 l0 x4_1).f3)⟩ : S31) )) (Reps.none _ _)))
                intro v289 w24 ho25 hb hg_ hnew_
                clear hg_ hnew_
                (first | rw [← Ny288.out] at ho25 | (simp only [Int.reduceToNat] at ho25; rw [← Ny288.out] at ho25))
                have n0_ := Aside0.mk (Kd.R_elder' (zk HO_3.out) (Kd.R_base ho25) hb)
                have n1_ := Aside0.mk (Kd.R_lower (Kd.R_newB (Kd.R_new' ho25 (Kd.R_lt (zk HO_3.out))) (g := gb276) (o := .cells #[.int .i64 ((rd_T31 x3_1 (ji6)).f0), .int .i64 ((rd_T31 x3_1 (ji6)).f1), .int .i64 ((rd_T31 x3_1 (ji6)).f2), .string (((rd_T31 x3_1 (ji6)).f3) ++ ((rd_T31 l0 x4_1).f3))] 31 (0, 0)) (zj BK276.out)) (below_size (by repeat (first | (with_reducible first | exact HB.out | apply below_alloc | apply pw_below_drewN | apply below_drew1 | refine below_set ?_ GE276.out) | exact HB.out))))
                have n2_ := Aside0.mk (blk_below (g := gb276) (o := .cells #[.int .i64 ((rd_T31 x3_1 (ji6)).f0), .int .i64 ((rd_T31 x3_1 (ji6)).f1), .int .i64 ((rd_T31 x3_1 (ji6)).f2), .string (((rd_T31 x3_1 (ji6)).f3) ++ ((rd_T31 l0 x4_1).f3))] 31 (0, 0)) (zj BK276.out) hb)
                have n3_ := Aside0.mk (Kd.C_below (by repeat (first | (with_reducible exact HR284.out) | (with_reducible refine Kd.C_alloc ?_ _) | (with_reducible refine Kd.C_drewN ?_ _) | (with_reducible refine Kd.C_drew ?_) | exact HR284.out)) hb)
                have n4_ := Aside0.mk (below_step (by repeat (first | (with_reducible first | exact HB.out | apply below_alloc | apply pw_below_drewN | apply below_drew1 | refine below_set ?_ GE276.out) | exact HB.out)) hb)
                clear HO_3
                clear BK276
                clear HR284
                clear HB
                have HO_3 := n0_
                have HO290 := n1_
                have BK276 := n2_
                have HR284 := n3_
                have HB := n4_
                clear n0_ n1_ n2_ n3_ n4_
                clear hb ho25
                refine hK.out _ _ ⟨(blk_cell BK276.out 0).trans rfl, (blk_cell BK276.out 1).trans rfl, (blk_cell BK276.out 2).trans rfl, (blk_cell BK276.out 3).trans rfl⟩ (fun hHeld => ?_)
                clear hK K
                refine norm_ (a' := ?_) ?_ ?_
                rotate_left
                ·show Act.put _ (some 55) _ = _
                 simp only [Act.put, List.setIfInBounds_toArray, List.set_cons_zero, List.set_cons_succ, i64_w, i32_w]
                 rfl
                refine one_ (i := 0) (N := some 48) #[true, true, true, true, true, false, true, true, false, false] rfl rfl (one_of HT_.out (by kernel_rfl)) (by decide) (fun K hK => ?_)
                refine Kd.R_lit_step k31 _ 31 ?hg (N := 48) ?hd (xs := ([] : List (S31))) (inner := []) (ok := fun _ => True) (okp := fun _ => True) ?hr ?hp (fun _ hk => hk) trivial (Below.refl _ _) (Nat.le_refl _) (by simp) ?_; (case hd => rfl); (case hg => rfl); (case hr => first | (go_simp; done) | (go_simp; rfl)); (case hp => exact (Reps.none _ _))
                intro v279 w26 ho27 hb hg_ hnew_
                clear hg_ hnew_
                (first | rw [← Ny278.out] at ho27 | (simp only [Int.reduceToNat] at ho27; rw [← Ny278.out] at ho27))
                have n0_ := Aside0.mk (Kd.R_elder' (zk HO_3.out) (Kd.R_base ho27) hb)
                have n1_ := Aside0.mk (Kd.R_elder' (zk HO290.out) (Kd.R_base ho27) hb)
                have n2_ := Aside0.mk (Kd.R_lower (Kd.R_newB (Kd.R_new' (Kd.R_new' ho27 (Kd.R_lt (zk HO_3.out))) (Kd.R_lt (zk HO290.out))) (g := gb276) (o := .cells #[.int .i64 ((rd_T31 x3_1 (ji6)).f0), .int .i64 ((rd_T31 x3_1 (ji6)).f1), .int .i64 ((rd_T31 x3_1 (ji6)).f2), .string (((rd_T31 x3_1 (ji6)).f3) ++ ((rd_T31 l0 x4_1).f3))] 31 (0, 0)) (zj BK276.out)) (below_size (by repeat (first | (with_reducible first | exact HB.out | apply below_alloc | apply pw_below_drewN | apply below_drew1 | refine below_set ?_ GE276.out) | exact HB.out))))
                have n3_ := Aside0.mk (blk_below (g := gb276) (o := .cells #[.int .i64 ((rd_T31 x3_1 (ji6)).f0), .int .i64 ((rd_T31 x3_1 (ji6)).f1), .int .i64 ((rd_T31 x3_1 (ji6)).f2), .string (((rd_T31 x3_1 (ji6)).f3) ++ ((rd_T31 l0 x4_1).f3))] 31 (0, 0)) (zj BK276.out) hb)
                have n4_ := Aside0.mk (Kd.C_below (by repeat (first | (with_reducible exact HR284.out) | (with_reducible refine Kd.C_alloc ?_ _) | (with_reducible refine Kd.C_drewN ?_ _) | (with_reducible refine Kd.C_drew ?_) | exact HR284.out)) hb)
                have n5_ := Aside0.mk (below_step (by repeat (first | (with_reducible first | exact HB.out | apply below_alloc | apply pw_below_drewN | apply below_drew1 | refine below_set ?_ GE276.out) | exact HB.out)) hb)
                clear HO_3
                clear HO290
                clear BK276
                clear HR284
                clear HB
                have HO_3 := n0_
                have HO290 := n1_
                have HO280 := n2_
                have BK276 := n3_
                have HR284 := n4_
                have HB := n5_
                clear n0_ n1_ n2_ n3_ n4_ n5_
                clear hb ho27
                refine hK.out _ _ ⟨(blk_cell BK276.out 0).trans rfl, (blk_cell BK276.out 1).trans rfl, (blk_cell BK276.out 2).trans rfl, (blk_cell BK276.out 3).trans rfl⟩ (fun hHeld => ?_)
                clear hK K
                refine norm_ (a' := ?_) ?_ ?_
                rotate_left
                ·show Act.put _ (some 48) _ = _
                 simp only [Act.put, List.setIfInBounds_toArray, List.set_cons_zero, List.set_cons_succ, i64_w, i32_w]
                 rfl
                refine one_ (i := 5) (N := some 53) #[true, true, true, true, true, true, true, true, false, false] rfl rfl (one_of HT_.out (by kernel_rfl)) (by decide) (fun K hK => ?_)
                refine Kd.R_append_rows_step k31 (w0 := w) w.heap.size (by rfl) (.tmp 48) (.tmp 52) 22 31 (.agg #[(.int .i64 0), (.int .i64 0), (.int .i64 0), (.string ⟨#[]⟩)]) 40 rfl Try.underlying22 info31 rfl (by decide) (by omega) v279 y278 y281 _ _ _ (fun k_ => some k_ ≠ (.slice (some ad274) x3_1.length co15 : Value).ownBlock ∧ some k_ ≠ (v289 : Value).ownBlock ∧ k_ ≠ gb276) (fun _ => False) rfl rfl ?aO ?aR (fun _ _ h => h) (fun _ h => h.elim) ?aF ?aB ?aS ?aL ?_
                (case aR => repeat (first | exact (by repeat (first | (with_reducible exact HR284.out) | (with_reducible refine Kd.C_alloc ?_ _) | (with_reducible refine Kd.C_drewN ?_ _) | (with_reducible refine Kd.C_drew ?_) | exact HR284.out)) | (with_reducible refine Kd.C_alloc ?_ _) | (with_reducible refine Kd.C_drewN ?_ _) | (with_reducible refine Kd.C_drew ?_)))
                (case aB => exact (by repeat (first | (with_reducible first | exact HB.out | apply below_alloc | apply pw_below_drewN | apply below_drew1 | refine below_set ?_ GE276.out) | exact HB.out)))
                (case aF => exact (fun k_ hk => ⟨Kd.fresh' (Kd.R_lt (zk HO_3.out)) k_ hk, Kd.fresh' (Kd.R_lt (zk HO290.out)) k_ hk, Kd.freshB (g := gb276) (o := .cells #[.int .i64 ((rd_T31 x3_1 (ji6)).f0), .int .i64 ((rd_T31 x3_1 (ji6)).f1), .int .i64 ((rd_T31 x3_1 (ji6)).f2), .string (((rd_T31 x3_1 (ji6)).f3) ++ ((rd_T31 l0 x4_1).f3))] 31 (0, 0)) (zj BK276.out) k_ hk⟩))
                (case aO => exact (by (with_reducible repeat (first | apply Kd.R_alloc | apply Kd.R_drewN | apply Kd.R_drew)); exact Kd.R_mono HO280.out (fun _ hk => ⟨hk.1.1.2, ⟨hk.1.2, hk.2⟩⟩)))
                (case aS => exact (below_size (by repeat (first | (with_reducible first | exact HB.out | apply below_alloc | apply pw_below_drewN | apply below_drew1 | refine below_set ?_ GE276.out) | exact HB.out))))
                (case aL => have := LMc13.out; omega)
                intro v286 w28 ho hb hg hat
                rw [← Ny285.out] at ho
                have n0_ := Aside0.mk (Kd.R_after (ok := (fun k_ => some k_ ≠ (v289 : Value).ownBlock ∧ k_ ≠ gb276)) (by (with_reducible repeat (first | apply Kd.R_alloc | apply Kd.R_drewN | apply Kd.R_drew)); exact Kd.R_mono HO_3.out (fun _ hk => ⟨⟨hk.1.2, hk.1.1⟩, hk.2⟩)) hg hat)
                have n1_ := Aside0.mk (blk_grown (g := gb276) (o := .cells #[.int .i64 ((rd_T31 x3_1 (ji6)).f0), .int .i64 ((rd_T31 x3_1 (ji6)).f1), .int .i64 ((rd_T31 x3_1 (ji6)).f2), .string (((rd_T31 x3_1 (ji6)).f3) ++ ((rd_T31 l0 x4_1).f3))] 31 (0, 0)) (zj BK276.out) hg (Kd.R_away HO280.out (fun _ hk => hk.2)))
                have n2_ := Aside0.mk (Kd.R_after (ok := (fun k_ => some k_ ≠ (.slice (some ad274) x3_1.length co15 : Value).ownBlock ∧ k_ ≠ gb276)) (by (with_reducible repeat (first | apply Kd.R_alloc | apply Kd.R_drewN | apply Kd.R_drew)); exact Kd.R_mono HO290.out (fun _ hk => ⟨⟨hk.1.1.2, hk.1.2⟩, hk.2⟩)) hg hat)
                have n3_ := Aside0.mk (hb)
                have n4_ := Aside0.mk ((show Kd.C k31 w28 (some ad274) y281.length y281 from by rw [Ny281.out]; exact Kd.C_take (m := ((ji6) : Int).toNat) ((Kd.R_reads' (Kd.R_after (ok := (fun k_ => some k_ ≠ (v289 : Value).ownBlock ∧ k_ ≠ gb276)) (by (with_reducible repeat (first | apply Kd.R_alloc | apply Kd.R_drewN | apply Kd.R_drew)); exact Kd.R_mono HO_3.out (fun _ hk => ⟨⟨hk.1.2, hk.1.1⟩, hk.2⟩)) hg hat)).2.2) KL23.out))
                have n5_ := Aside0.mk (ho)
                clear HO_3
                clear BK276
                clear HO290
                clear HB
                clear HR284
                clear HO280
                have HO_3 := n0_
                have BK276 := n1_
                have HO290 := n2_
                have HB := n3_
                have HR284 := n4_
                have HO287 := n5_
                clear n0_ n1_ n2_ n3_ n4_ n5_
                clear ho hb hg hat
                refine hK.out _ _ ⟨(blk_cell BK276.out 0).trans rfl, (blk_cell BK276.out 1).trans rfl, (blk_cell BK276.out 2).trans rfl, (blk_cell BK276.out 3).trans rfl⟩ (fun hHeld => ?_)
                clear hK K
                refine norm_ (a' := ?_) ?_ ?_
                rotate_left
                ·show Act.put _ (some 53) _ = _
                 simp only [Act.put, List.setIfInBounds_toArray, List.set_cons_zero, List.set_cons_succ, i64_w, i32_w]
                 rfl
                exact norm_ (by simp only [putAll, Act.put, List.setIfInBounds_toArray, List.set_cons_zero, List.set_cons_succ]) (hCont (v279, v286, v289) _ ⟨hHeld, (by (with_reducible repeat (first | apply Kd.R_alloc | apply Kd.R_drewN | apply Kd.R_drew)); exact Kd.R_mono HO287.out (fun _ hk => ⟨hk.2.1, ⟨hk.1, hk.2.2⟩⟩)), (by (with_reducible repeat (first | apply Kd.R_alloc | apply Kd.R_drewN | apply Kd.R_drew)); exact Kd.R_mono HO290.out (fun _ hk => ⟨hk.2, ⟨hk.1.1, hk.1.2⟩⟩)), (by (with_reducible repeat (first | apply Kd.R_alloc | apply Kd.R_drewN | apply Kd.R_drew)); exact Kd.R_mono HO_3.out (fun _ hk => ⟨hk.2, ⟨hk.1.1, hk.1.2⟩⟩)), (zj BK276.out), (by repeat (first | (with_reducible first | exact HB.out | apply below_alloc | apply pw_below_drewN | apply below_drew1 | refine below_set ?_ GE276.out) | exact HB.out))⟩)
              rintro ⟨v279, v286, v289⟩ w29 ⟨hS_, h0_, h1_, h2_, h3_, h4_⟩
              have n0_ : Aside0 (Kd.R k31 31 w29 w.heap.size (fun k_ => some k_ ≠ (v289 : Value).ownBlock ∧ some k_ ≠ (.slice (some ad274) x3_1.length co15 : Value).ownBlock ∧ k_ ≠ gb276) v286 y285) := ⟨h0_⟩
              have n1_ : Aside0 (Kd.R k31 31 w29 w.heap.size (fun k_ => some k_ ≠ (v286 : Value).ownBlock ∧ some k_ ≠ (.slice (some ad274) x3_1.length co15 : Value).ownBlock ∧ k_ ≠ gb276) v289 y288) := ⟨h1_⟩
              have n2_ : Aside0 (Kd.R k31 31 w29 w.heap.size (fun k_ => some k_ ≠ (v286 : Value).ownBlock ∧ some k_ ≠ (v289 : Value).ownBlock ∧ k_ ≠ gb276) (.slice (some ad274) x3_1.length co15) x3_1) := ⟨h2_⟩
              have n3_ : Aside0 (w29.heap[gb276]? = some (.cells #[.int .i64 ((rd_T31 x3_1 (ji6)).f0), .int .i64 ((rd_T31 x3_1 (ji6)).f1), .int .i64 ((rd_T31 x3_1 (ji6)).f2), .string (((rd_T31 x3_1 (ji6)).f3) ++ ((rd_T31 l0 x4_1).f3))] 31 (0, 0))) := ⟨h3_⟩
              have n4_ : Aside0 (Below w.heap.size w w29) := ⟨h4_⟩
              clear HO_3
              clear BK276
              clear HB
              clear h0_ h1_ h2_ h3_ h4_
              have HO287 := n0_
              have HO290 := n1_
              have HO_3 := n2_
              have BK276 := n3_
              have HB := n4_
              clear n0_ n1_ n2_ n3_ n4_
              have hHeld : w29.cell? ⟨gb276, 0, none⟩ = some (.int .i64 ((rd_T31 x3_1 (ji6)).f0)) ∧ w29.cell? ⟨gb276, 1, none⟩ = some (.int .i64 ((rd_T31 x3_1 (ji6)).f1)) ∧ w29.cell? ⟨gb276, 2, none⟩ = some (.int .i64 ((rd_T31 x3_1 (ji6)).f2)) ∧ w29.cell? ⟨gb276, 3, none⟩ = some (.string (((rd_T31 x3_1 (ji6)).f3) ++ ((rd_T31 l0 x4_1).f3))) := hS_
              obtain ⟨Ao31, co31, eo31⟩ := Kd.R_slice HO290.out
              (first | subst eo31 | (injection eo31 with f1_ f2_ f3_; have f4_ := f1_.symm; have f5_ := f3_.symm; clear f1_ f2_ f3_; subst f4_; subst f5_))
              refine norm_ (a' := ?_) ?_ ?_
              rotate_left
              ·simp only [putAll, Act.put, List.setIfInBounds_toArray, List.set_cons_zero, List.set_cons_succ]
               rfl
              refine one_ (i := 8) (N := some 56) #[true, true, true, true, true, true, true, true, true, false] rfl rfl (one_of HT_.out (by kernel_rfl)) (by decide) (fun K hK => ?_)
              refine Kd.R_append_rows_step k31 (w0 := w) w.heap.size (by rfl) (.tmp 53) (.tmp 55) 22 31 (.agg #[(.int .i64 0), (.int .i64 0), (.int .i64 0), (.string ⟨#[]⟩)]) 40 rfl Try.underlying22 info31 rfl (by decide) (by omega) v286 y285 y288 _ _ _ (fun k_ => some k_ ≠ (.slice (some ad274) x3_1.length co15 : Value).ownBlock ∧ some k_ ≠ (.slice Ao31 y288.length co31 : Value).ownBlock ∧ k_ ≠ gb276) (fun _ => False) rfl rfl ?aO ?aR (fun _ _ h => h) (fun _ h => h.elim) ?aF ?aB ?aS ?aL ?_
              (case aR => repeat (first | exact (Kd.R_reads' HO290.out).2.2 | (with_reducible refine Kd.C_alloc ?_ _) | (with_reducible refine Kd.C_drewN ?_ _) | (with_reducible refine Kd.C_drew ?_)))
              (case aB => exact (by repeat (first | (with_reducible first | exact HB.out | apply below_alloc | apply pw_below_drewN | apply below_drew1 | refine below_set ?_ GE276.out) | exact HB.out)))
              (case aF => exact (fun k_ hk => ⟨Kd.fresh' (Kd.R_lt (zk HO_3.out)) k_ hk, Kd.fresh' (Kd.R_lt (zk HO290.out)) k_ hk, Kd.freshB (g := gb276) (o := .cells #[.int .i64 ((rd_T31 x3_1 (ji6)).f0), .int .i64 ((rd_T31 x3_1 (ji6)).f1), .int .i64 ((rd_T31 x3_1 (ji6)).f2), .string (((rd_T31 x3_1 (ji6)).f3) ++ ((rd_T31 l0 x4_1).f3))] 31 (0, 0)) (zj BK276.out) k_ hk⟩))
              (case aO => exact (by (with_reducible repeat (first | apply Kd.R_alloc | apply Kd.R_drewN | apply Kd.R_drew)); exact Kd.R_mono HO287.out (fun _ hk => ⟨hk.2.1, ⟨hk.1, hk.2.2⟩⟩)))
              (case aS => exact (below_size (by repeat (first | (with_reducible first | exact HB.out | apply below_alloc | apply pw_below_drewN | apply below_drew1 | refine below_set ?_ GE276.out) | exact HB.out))))
              (case aL => have := LMc14.out; omega)
              intro v292 w30 ho hb hg hat
              rw [← Ny291.out] at ho
              have n0_ := Aside0.mk (Kd.R_after (ok := (fun k_ => some k_ ≠ (.slice Ao31 y288.length co31 : Value).ownBlock ∧ k_ ≠ gb276)) (by (with_reducible repeat (first | apply Kd.R_alloc | apply Kd.R_drewN | apply Kd.R_drew)); exact Kd.R_mono HO_3.out (fun _ hk => ⟨⟨hk.2.1, hk.2.2⟩, hk.1⟩)) hg hat)
              have n1_ := Aside0.mk (blk_grown (g := gb276) (o := .cells #[.int .i64 ((rd_T31 x3_1 (ji6)).f0), .int .i64 ((rd_T31 x3_1 (ji6)).f1), .int .i64 ((rd_T31 x3_1 (ji6)).f2), .string (((rd_T31 x3_1 (ji6)).f3) ++ ((rd_T31 l0 x4_1).f3))] 31 (0, 0)) (zj BK276.out) hg (Kd.R_away HO287.out (fun _ hk => hk.2.2)))
              have n2_ := Aside0.mk (Kd.R_after (ok := (fun k_ => some k_ ≠ (.slice (some ad274) x3_1.length co15 : Value).ownBlock ∧ k_ ≠ gb276)) (by (with_reducible repeat (first | apply Kd.R_alloc | apply Kd.R_drewN | apply Kd.R_drew)); exact Kd.R_mono HO290.out (fun _ hk => ⟨⟨hk.2.1, hk.2.2⟩, hk.1⟩)) hg hat)
              have n3_ := Aside0.mk (hb)
              have n4_ := Aside0.mk (ho)
              clear HO_3
              clear BK276
              clear HO290
              clear HB
              clear HO287
              have HO_3 := n0_
              have BK276 := n1_
              have HO290 := n2_
              have HB := n3_
              have HO293 := n4_
              clear n0_ n1_ n2_ n3_ n4_
              clear ho hb hg hat
              refine hK.out _ _ ⟨(blk_cell BK276.out 0).trans rfl, (blk_cell BK276.out 1).trans rfl, (blk_cell BK276.out 2).trans rfl, (blk_cell BK276.out 3).trans rfl⟩ (fun hHeld => ?_)
              clear hK K
              refine norm_ (a' := ?_) ?_ ?_
              rotate_left
              ·show Act.put _ (some 56) _ = _
               simp only [Act.put, List.setIfInBounds_toArray, List.set_cons_zero, List.set_cons_succ, i64_w, i32_w]
               rfl
              refine pure_ (i := 9) (N := some 3) (v := ?_) (a' := ?_) #[true, true, true, true, true, true, true, true, true, true] rfl rfl (any_of HT_.out (by kernel_rfl)) (fun _ _ _ h => h) (Or.inl ⟨by rfl, ?_⟩) ?_ ?_
              rotate_left
              ·intro w'
               go_simp
               with_reducible rfl
              rotate_left
              ·simp only [Act.put, List.setIfInBounds_toArray, List.set_cons_zero, List.set_cons_succ, i64_w, i32_w]
               rfl
              refine done_ (done_of HT_.out (by kernel_rfl)) ?_
              try go_wp2
              go_roundg k1
              case measure => have := HK1.out; omega
              case rel => exact ⟨(y291), (wrap64 (x4_1 + 1)), (by first | rfl | (simp; done) | (simp [*]; done)), H', ⟨by have := HK1.out; omega⟩, ⟨by (with_reducible repeat (first | apply Kd.R_alloc | apply Kd.R_drewN | apply Kd.R_drew)); exact Kd.R_mono HO293.out (fun _ hk => trivial)⟩, ⟨by repeat (first | (with_reducible first | exact HB.out | apply below_alloc | apply pw_below_drewN | apply below_drew1 | refine below_set ?_ GE276.out) | exact HB.out)⟩⟩
             ·rw [if_neg c14] at H
              exact absurd H (by simp)
            ·rw [if_neg c13] at H
             exact absurd H (by simp)
           ·rw [if_neg c12] at H
            exact absurd H (by simp)
          ·rw [if_neg c10] at H
           exact absurd H (by simp)
         ·rw [if_neg c9] at H
          have c9b0 : (((rd_T31 x3_1 (ji6)).f0) == 0) = false := beq_eq_false_iff_ne.mpr c9
          have c9b1 : (((rd_T31 x3_1 (ji6)).f0) != 0) = true := bne_iff_ne.mpr c9
          obtain ⟨y295, hy295⟩ : ∃ y_ : List (S31), y_ = (([(⟨(rd_T31 l0 x4_1).f0, (rd_T31 l0 x4_1).f1, (rd_T31 l0 x4_1).f2, (rd_T31 l0 x4_1).f3⟩ : S31)] : List (S31))) := ⟨_, rfl⟩
          replace H : (if x3_1.length + y295.length < 3518437208883 then (dactylref10_Joined.l0 k1 l0 (x3_1 ++ y295) (wrap64 (x4_1 + 1))) else (none)) = some r := by first | (rw [hy295]; with_reducible exact H) | (have H2_ := (Option.bind_some _ _).symm.trans H; rw [hy295]; with_reducible exact H2_) | (have H2_ := (Option.bind_some _ _).symm.trans H; with_reducible exact H2_) | with_reducible exact H | (rw [hy295]; exact H) | exact H
          have Ny295 := Aside0.mk hy295
          clear hy295
          by_cases c32 : x3_1.length + y295.length < 3518437208883
          ·rw [if_pos c32] at H
           have LMc32 := Aside0.mk c32
           clear c32
           obtain ⟨y298, hy298⟩ : ∃ y_ : List (S31), y_ = (x3_1 ++ y295) := ⟨_, rfl⟩
           replace H : (dactylref10_Joined.l0 k1 l0 y298 (wrap64 (x4_1 + 1))) = some r := by first | (rw [hy298]; with_reducible exact H) | (have H2_ := (Option.bind_some _ _).symm.trans H; rw [hy298]; with_reducible exact H2_) | (have H2_ := (Option.bind_some _ _).symm.trans H; with_reducible exact H2_) | with_reducible exact H | (rw [hy298]; exact H) | exact H
           have Ny298 := Aside0.mk hy298
           clear hy298
           have H' := Aside0.mk H
           clear H
           obtain ⟨Ao33, co33, eo33⟩ := Kd.R_slice HO_3.out
           subst eo33
           have p273 : 0 ≤ (x4_1 : Int) := of_decide_eq_true za
           have q273 : x4_1 < (l0.length : Int) := of_decide_eq_true za
           obtain ⟨ad273, e273, hx273_0, hx273_1, hx273_2, hx273_3⟩ := at_T31 HR0.out x4_1 p273 q273
           cases e273
           replace hx273_0 := (HB.out.cell (World.block_lt_of_cell? w _ hx273_0)).trans hx273_0
           replace hx273_1 := (HB.out.cell (World.block_lt_of_cell? w _ hx273_1)).trans hx273_1
           replace hx273_2 := (HB.out.cell (World.block_lt_of_cell? w _ hx273_2)).trans hx273_2
           replace hx273_3 := (HB.out.cell (World.block_lt_of_cell? w _ hx273_3)).trans hx273_3
           replace p273 := eq_true p273
           replace q273 := eq_true q273
           have p274 : 0 ≤ ((ji6) : Int) := of_decide_eq_true za
           have q274 : (ji6) < (x3_1.length : Int) := of_decide_eq_true za
           obtain ⟨ad274, e274, hx274_0, hx274_1, hx274_2, hx274_3⟩ := at_T31 (Kd.R_reads' HO_3.out).2.2 (ji6) p274 q274
           cases e274
           replace p274 := eq_true p274
           replace q274 := eq_true q274
           have p294 : 0 ≤ (x4_1 : Int) := of_decide_eq_true za
           have q294 : x4_1 < (l0.length : Int) := of_decide_eq_true za
           obtain ⟨ad294, e294, hx294_0, hx294_1, hx294_2, hx294_3⟩ := at_T31 HR0.out x4_1 p294 q294
           obtain rfl : ad273 = ad294 := (by injection e294)
           replace hx294_0 := (HB.out.cell (World.block_lt_of_cell? w _ hx294_0)).trans hx294_0
           replace hx294_1 := (HB.out.cell (World.block_lt_of_cell? w _ hx294_1)).trans hx294_1
           replace hx294_2 := (HB.out.cell (World.block_lt_of_cell? w _ hx294_2)).trans hx294_2
           replace hx294_3 := (HB.out.cell (World.block_lt_of_cell? w _ hx294_3)).trans hx294_3
           replace p294 := eq_true p294
           replace q294 := eq_true q294
           go_wp2_with (first | ((with_reducible refine gate_dst (N := 62) rfl ?_); refine Kd.R_lit k31 _ 31 ?hg (N := 62) ?hd (xs := ([(⟨(rd_T31 l0 x4_1).f0, (rd_T31 l0 x4_1).f1, (rd_T31 l0 x4_1).f2, (rd_T31 l0 x4_1).f3⟩ : S31)] : List (S31))) (inner := [.int .i64 ((rd_T31 l0 x4_1).f0), .int .i64 ((rd_T31 l0 x4_1).f1), .int .i64 ((rd_T31 l0 x4_1).f2), .string ((rd_T31 l0 x4_1).f3)]) (ok := fun _ => True) (okp := fun _ => True) ?hr ?hp (fun _ hk => hk) trivial (Below.refl _ _) (Nat.le_refl _) (by simp) ?_; (case hd => rfl); (case hg => rfl); (case hr => first | (go_simp; done) | (go_simp; rfl)); (case hp => exact (Reps.c4 (show Kd.M k31 _ _ _ (⟨(rd_T31 l0 x4_1).f0, (rd_T31 l0 x4_1).f1, (rd_T31 l0 x4_1).f2, (rd_T31 l0 x4_1).f3⟩ : S31) [.int .i64 ((rd_T31 l0 x4_1).f0), .int .i64 ((rd_T31 l0 x4_1).f1), .int .i64 ((rd_T31 l0 x4_1).f2), .string ((rd_T31 l0 x4_1).f3)] from (k31_mkM _ _ _ (⟨(rd_T31 l0 x4_1).f0, (rd_T31 l0 x4_1).f1, (rd_T31 l0 x4_1).f2, (rd_T31 l0 x4_1).f3⟩ : S31) )) (Reps.none _ _))); intro v296 w34 ho35 hb hg_ hnew_; clear hg_ hnew_; (first | rw [← Ny295.out] at ho35 | (simp only [Int.reduceToNat] at ho35; rw [← Ny295.out] at ho35)); have n0_ := Aside0.mk (Kd.R_elder' (zk HO_3.out) (Kd.R_base ho35) hb); have n1_ := Aside0.mk (Kd.R_lower (Kd.R_new' ho35 (Kd.R_lt (zk HO_3.out))) (below_size zb)); have n2_ := Aside0.mk (below_step zb hb); clear HO_3; clear HB; have HO_3 := n0_; have HO297 := n1_; have HB := n2_; clear n0_ n1_ n2_; clear hb ho35; obtain ⟨Ao37, co37, eo37⟩ := Kd.R_slice HO297.out; subst eo37) | ((with_reducible refine gate_builtin (b := .append) (xs := #[.tmp 57, .tmp 62]) rfl ?_); at_builtin; refine Kd.R_append_rows k31 (w0 := w) w.heap.size rfl (.tmp 57) (.tmp 62) 22 31 (.agg #[(.int .i64 0), (.int .i64 0), (.int .i64 0), (.string ⟨#[]⟩)]) 40 rfl Try.underlying22 info31 rfl (by decide) (by omega) (.slice (some ad274) x3_1.length co33) x3_1 y295 _ _ _ (fun k_ => some k_ ≠ (.slice Ao37 y295.length co37 : Value).ownBlock) (fun _ => False) rfl rfl ?aO ?aR (fun _ _ h => h) (fun _ h => h.elim) ?aF ?aB ?aS ?aL ?_; (case aR => repeat (first | exact (Kd.R_reads' HO297.out).2.2 | (with_reducible refine Kd.C_alloc ?_ _) | (with_reducible refine Kd.C_drewN ?_ _) | (with_reducible refine Kd.C_drew ?_))); (case aB => exact zb); (case aF => exact (fun k_ hk => Kd.fresh' (Kd.R_lt (zk HO297.out)) k_ hk)); (case aO => exact (by (with_reducible repeat (first | apply Kd.R_alloc | apply Kd.R_drewN | apply Kd.R_drew)); exact Kd.R_mono HO_3.out (fun _ hk => hk.2))); (case aS => exact (below_size zb)); (case aL => have := LMc32.out; omega); intro v299 w36 ho hb hg hat; rw [← Ny298.out] at ho; have n0_ := Aside0.mk (Kd.R_after (ok := (fun _ => True)) (zk HO297.out) hg hat); have n1_ := Aside0.mk (hb); have n2_ := Aside0.mk (ho); clear HO297; clear HB; clear HO_3; have HO297 := n0_; have HB := n1_; have HO300 := n2_; clear n0_ n1_ n2_; clear ho hb hg hat))
           go_roundg k1
           case measure => have := HK1.out; omega
           case rel => exact ⟨(y298), (wrap64 (x4_1 + 1)), (by first | rfl | (simp; done) | (simp [*]; done)), H', ⟨by have := HK1.out; omega⟩, ⟨by (with_reducible repeat (first | apply Kd.R_alloc | apply Kd.R_drewN | apply Kd.R_drew)); exact Kd.R_mono HO300.out (fun _ hk => trivial)⟩, ⟨by repeat (first | (with_reducible first | exact HB.out | apply below_alloc | apply pw_below_drewN | apply below_drew1) | exact HB.out)⟩⟩
          ·rw [if_neg c32] at H
           exact absurd H (by simp)
        ·rw [if_neg c8] at H
         exact absurd H (by simp)
       ·rw [if_neg c7] at H
        exact absurd H (by simp)
      ·rw [if_neg c5] at H
       have c5b0 : (((rd_T31 l0 x4_1).f0) == 0) = false := beq_eq_false_iff_ne.mpr c5
       have c5b1 : (((rd_T31 l0 x4_1).f0) != 0) = true := bne_iff_ne.mpr c5
       obtain ⟨y302, hy302⟩ : ∃ y_ : List (S31), y_ = (([(⟨(rd_T31 l0 x4_1).f0, (rd_T31 l0 x4_1).f1, (rd_T31 l0 x4_1).f2, (rd_T31 l0 x4_1).f3⟩ : S31)] : List (S31))) := ⟨_, rfl⟩
       replace H : (if x3_1.length + y302.length < 3518437208883 then (dactylref10_Joined.l0 k1 l0 (x3_1 ++ y302) (wrap64 (x4_1 + 1))) else (none)) = some r := by first | (rw [hy302]; with_reducible exact H) | (have H2_ := (Option.bind_some _ _).symm.trans H; rw [hy302]; with_reducible exact H2_) | (have H2_ := (Option.bind_some _ _).symm.trans H; with_reducible exact H2_) | with_reducible exact H | (rw [hy302]; exact H) | exact H
       have Ny302 := Aside0.mk hy302
       clear hy302
       by_cases c38 : x3_1.length + y302.length < 3518437208883
       ·rw [if_pos c38] at H
        have LMc38 := Aside0.mk c38
        clear c38
        obtain ⟨y305, hy305⟩ : ∃ y_ : List (S31), y_ = (x3_1 ++ y302) := ⟨_, rfl⟩
        replace H : (dactylref10_Joined.l0 k1 l0 y305 (wrap64 (x4_1 + 1))) = some r := by first | (rw [hy305]; with_reducible exact H) | (have H2_ := (Option.bind_some _ _).symm.trans H; rw [hy305]; with_reducible exact H2_) | (have H2_ := (Option.bind_some _ _).symm.trans H; with_reducible exact H2_) | with_reducible exact H | (rw [hy305]; exact H) | exact H
        have Ny305 := Aside0.mk hy305
        clear hy305
        have H' := Aside0.mk H
        clear H
        obtain ⟨Ao39, co39, eo39⟩ := Kd.R_slice HO_3.out
        subst eo39
        have p273 : 0 ≤ (x4_1 : Int) := of_decide_eq_true za
        have q273 : x4_1 < (l0.length : Int) := of_decide_eq_true za
        obtain ⟨ad273, e273, hx273_0, hx273_1, hx273_2, hx273_3⟩ := at_T31 HR0.out x4_1 p273 q273
        cases e273
        replace hx273_0 := (HB.out.cell (World.block_lt_of_cell? w _ hx273_0)).trans hx273_0
        replace hx273_1 := (HB.out.cell (World.block_lt_of_cell? w _ hx273_1)).trans hx273_1
        replace hx273_2 := (HB.out.cell (World.block_lt_of_cell? w _ hx273_2)).trans hx273_2
        replace hx273_3 := (HB.out.cell (World.block_lt_of_cell? w _ hx273_3)).trans hx273_3
        replace p273 := eq_true p273
        replace q273 := eq_true q273
        have p301 : 0 ≤ (x4_1 : Int) := of_decide_eq_true za
        have q301 : x4_1 < (l0.length : Int) := of_decide_eq_true za
        obtain ⟨ad301, e301, hx301_0, hx301_1, hx301_2, hx301_3⟩ := at_T31 HR0.out x4_1 p301 q301
        obtain rfl : ad273 = ad301 := (by injection e301)
        replace hx301_0 := (HB.out.cell (World.block_lt_of_cell? w _ hx301_0)).trans hx301_0
        replace hx301_1 := (HB.out.cell (World.block_lt_of_cell? w _ hx301_1)).trans hx301_1
        replace hx301_2 := (HB.out.cell (World.block_lt_of_cell? w _ hx301_2)).trans hx301_2
        replace hx301_3 := (HB.out.cell (World.block_lt_of_cell? w _ hx301_3)).trans hx301_3
        replace p301 := eq_true p301
        replace q301 := eq_true q301
        go_wp2_with (first | ((with_reducible refine gate_dst (N := 62) rfl ?_); refine Kd.R_lit k31 _ 31 ?hg (N := 62) ?hd (xs := ([(⟨(rd_T31 l0 x4_1).f0, (rd_T31 l0 x4_1).f1, (rd_T31 l0 x4_1).f2, (rd_T31 l0 x4_1).f3⟩ : S31)] : List (S31))) (inner := [.int .i64 ((rd_T31 l0 x4_1).f0), .int .i64 ((rd_T31 l0 x4_1).f1), .int .i64 ((rd_T31 l0 x4_1).f2), .string ((rd_T31 l0 x4_1).f3)]) (ok := fun _ => True) (okp := fun _ => True) ?hr ?hp (fun _ hk => hk) trivial (Below.refl _ _) (Nat.le_refl _) (by simp) ?_; (case hd => rfl); (case hg => rfl); (case hr => first | (go_simp; done) | (go_simp; rfl)); (case hp => exact (Reps.c4 (show Kd.M k31 _ _ _ (⟨(rd_T31 l0 x4_1).f0, (rd_T31 l0 x4_1).f1, (rd_T31 l0 x4_1).f2, (rd_T31 l0 x4_1).f3⟩ : S31) [.int .i64 ((rd_T31 l0 x4_1).f0), .int .i64 ((rd_T31 l0 x4_1).f1), .int .i64 ((rd_T31 l0 x4_1).f2), .string ((rd_T31 l0 x4_1).f3)] from (k31_mkM _ _ _ (⟨(rd_T31 l0 x4_1).f0, (rd_T31 l0 x4_1).f1, (rd_T31 l0 x4_1).f2, (rd_T31 l0 x4_1).f3⟩ : S31) )) (Reps.none _ _))); intro v303 w40 ho41 hb hg_ hnew_; clear hg_ hnew_; (first | rw [← Ny302.out] at ho41 | (simp only [Int.reduceToNat] at ho41; rw [← Ny302.out] at ho41)); have n0_ := Aside0.mk (Kd.R_elder' (zk HO_3.out) (Kd.R_base ho41) hb); have n1_ := Aside0.mk (Kd.R_lower (Kd.R_new' ho41 (Kd.R_lt (zk HO_3.out))) (below_size zb)); have n2_ := Aside0.mk (below_step zb hb); clear HO_3; clear HB; have HO_3 := n0_; have HO304 := n1_; have HB := n2_; clear n0_ n1_ n2_; clear hb ho41; obtain ⟨Ao43, co43, eo43⟩ := Kd.R_slice HO304.out; subst eo43) | ((with_reducible refine gate_builtin (b := .append) (xs := #[.tmp 57, .tmp 62]) rfl ?_); at_builtin; refine Kd.R_append_rows k31 (w0 := w) w.heap.size rfl (.tmp 57) (.tmp 62) 22 31 (.agg #[(.int .i64 0), (.int .i64 0), (.int .i64 0), (.string ⟨#[]⟩)]) 40 rfl Try.underlying22 info31 rfl (by decide) (by omega) (.slice Ao39 x3_1.length co39) x3_1 y302 _ _ _ (fun k_ => some k_ ≠ (.slice Ao43 y302.length co43 : Value).ownBlock) (fun _ => False) rfl rfl ?aO ?aR (fun _ _ h => h) (fun _ h => h.elim) ?aF ?aB ?aS ?aL ?_; (case aR => repeat (first | exact (Kd.R_reads' HO304.out).2.2 | (with_reducible refine Kd.C_alloc ?_ _) | (with_reducible refine Kd.C_drewN ?_ _) | (with_reducible refine Kd.C_drew ?_))); (case aB => exact zb); (case aF => exact (fun k_ hk => Kd.fresh' (Kd.R_lt (zk HO304.out)) k_ hk)); (case aO => exact (by (with_reducible repeat (first | apply Kd.R_alloc | apply Kd.R_drewN | apply Kd.R_drew)); exact Kd.R_mono HO_3.out (fun _ hk => hk.2))); (case aS => exact (below_size zb)); (case aL => have := LMc38.out; omega); intro v306 w42 ho hb hg hat; rw [← Ny305.out] at ho; have n0_ := Aside0.mk (Kd.R_after (ok := (fun _ => True)) (zk HO304.out) hg hat); have n1_ := Aside0.mk (hb); have n2_ := Aside0.mk (ho); clear HO304; clear HB; clear HO_3; have HO304 := n0_; have HB := n1_; have HO307 := n2_; clear n0_ n1_ n2_; clear ho hb hg hat))
        go_roundg k1
        case measure => have := HK1.out; omega
        case rel => exact ⟨(y305), (wrap64 (x4_1 + 1)), (by first | rfl | (simp; done) | (simp [*]; done)), H', ⟨by have := HK1.out; omega⟩, ⟨by (with_reducible repeat (first | apply Kd.R_alloc | apply Kd.R_drewN | apply Kd.R_drew)); exact Kd.R_mono HO307.out (fun _ hk => trivial)⟩, ⟨by repeat (first | (with_reducible first | exact HB.out | apply below_alloc | apply pw_below_drewN | apply below_drew1) | exact HB.out)⟩⟩
       ·rw [if_neg c38] at H
        exact absurd H (by simp)
     ·rw [if_neg c4] at H
      exact absurd H (by simp)
    ·rw [if_neg c3] at H
     have c3b0 : decide (0 < (x3_1.length : Int)) = false := decide_eq_false c3
     have c3b1 : decide (0 < x3_1.length) = false := decide_eq_false (by omega)
     clear c3
     by_cases c44 : 0 ≤ x4_1
     ·rw [if_pos c44] at H
      have c44b0 : decide (0 ≤ x4_1) = true := decide_eq_true c44
      clear c44
      obtain ⟨y309, hy309⟩ : ∃ y_ : List (S31), y_ = (([(⟨(rd_T31 l0 x4_1).f0, (rd_T31 l0 x4_1).f1, (rd_T31 l0 x4_1).f2, (rd_T31 l0 x4_1).f3⟩ : S31)] : List (S31))) := ⟨_, rfl⟩
      replace H : (if x3_1.length + y309.length < 3518437208883 then (dactylref10_Joined.l0 k1 l0 (x3_1 ++ y309) (wrap64 (x4_1 + 1))) else (none)) = some r := by first | (rw [hy309]; with_reducible exact H) | (have H2_ := (Option.bind_some _ _).symm.trans H; rw [hy309]; with_reducible exact H2_) | (have H2_ := (Option.bind_some _ _).symm.trans H; with_reducible exact H2_) | with_reducible exact H | (rw [hy309]; exact H) | exact H
      have Ny309 := Aside0.mk hy309
      clear hy309
      by_cases c45 : x3_1.length + y309.length < 3518437208883
      ·rw [if_pos c45] at H
       have LMc45 := Aside0.mk c45
       clear c45
       obtain ⟨y312, hy312⟩ : ∃ y_ : List (S31), y_ = (x3_1 ++ y309) := ⟨_, rfl⟩
       replace H : (dactylref10_Joined.l0 k1 l0 y312 (wrap64 (x4_1 + 1))) = some r := by first | (rw [hy312]; with_reducible exact H) | (have H2_ := (Option.bind_some _ _).symm.trans H; rw [hy312]; with_reducible exact H2_) | (have H2_ := (Option.bind_some _ _).symm.trans H; with_reducible exact H2_) | with_reducible exact H | (rw [hy312]; exact H) | exact H
       have Ny312 := Aside0.mk hy312
       clear hy312
       have H' := Aside0.mk H
       clear H
       obtain ⟨Ao46, co46, eo46⟩ := Kd.R_slice HO_3.out
       subst eo46
       have p308 : 0 ≤ (x4_1 : Int) := of_decide_eq_true za
       have q308 : x4_1 < (l0.length : Int) := of_decide_eq_true za
       obtain ⟨ad308, e308, hx308_0, hx308_1, hx308_2, hx308_3⟩ := at_T31 HR0.out x4_1 p308 q308
       cases e308
       replace hx308_0 := (HB.out.cell (World.block_lt_of_cell? w _ hx308_0)).trans hx308_0
       replace hx308_1 := (HB.out.cell (World.block_lt_of_cell? w _ hx308_1)).trans hx308_1
       replace hx308_2 := (HB.out.cell (World.block_lt_of_cell? w _ hx308_2)).trans hx308_2
       replace hx308_3 := (HB.out.cell (World.block_lt_of_cell? w _ hx308_3)).trans hx308_3
       replace p308 := eq_true p308
       replace q308 := eq_true q308
       go_wp2_with (first | ((with_reducible refine gate_dst (N := 62) rfl ?_); refine Kd.R_lit k31 _ 31 ?hg (N := 62) ?hd (xs := ([(⟨(rd_T31 l0 x4_1).f0, (rd_T31 l0 x4_1).f1, (rd_T31 l0 x4_1).f2, (rd_T31 l0 x4_1).f3⟩ : S31)] : List (S31))) (inner := [.int .i64 ((rd_T31 l0 x4_1).f0), .int .i64 ((rd_T31 l0 x4_1).f1), .int .i64 ((rd_T31 l0 x4_1).f2), .string ((rd_T31 l0 x4_1).f3)]) (ok := fun _ => True) (okp := fun _ => True) ?hr ?hp (fun _ hk => hk) trivial (Below.refl _ _) (Nat.le_refl _) (by simp) ?_; (case hd => rfl); (case hg => rfl); (case hr => first | (go_simp; done) | (go_simp; rfl)); (case hp => exact (Reps.c4 (show Kd.M k31 _ _ _ (⟨(rd_T31 l0 x4_1).f0, (rd_T31 l0 x4_1).f1, (rd_T31 l0 x4_1).f2, (rd_T31 l0 x4_1).f3⟩ : S31) [.int .i64 ((rd_T31 l0 x4_1).f0), .int .i64 ((rd_T31 l0 x4_1).f1), .int .i64 ((rd_T31 l0 x4_1).f2), .string ((rd_T31 l0 x4_1).f3)] from (k31_mkM _ _ _ (⟨(rd_T31 l0 x4_1).f0, (rd_T31 l0 x4_1).f1, (rd_T31 l0 x4_1).f2, (rd_T31 l0 x4_1).f3⟩ : S31) )) (Reps.none _ _))); intro v310 w47 ho48 hb hg_ hnew_; clear hg_ hnew_; (first | rw [← Ny309.out] at ho48 | (simp only [Int.reduceToNat] at ho48; rw [← Ny309.out] at ho48)); have n0_ := Aside0.mk (Kd.R_elder' (zk HO_3.out) (Kd.R_base ho48) hb); have n1_ := Aside0.mk (Kd.R_lower (Kd.R_new' ho48 (Kd.R_lt (zk HO_3.out))) (below_size zb)); have n2_ := Aside0.mk (below_step zb hb); clear HO_3; clear HB; have HO_3 := n0_; have HO311 := n1_; have HB := n2_; clear n0_ n1_ n2_; clear hb ho48; obtain ⟨Ao50, co50, eo50⟩ := Kd.R_slice HO311.out; subst eo50) | ((with_reducible refine gate_builtin (b := .append) (xs := #[.tmp 57, .tmp 62]) rfl ?_); at_builtin; refine Kd.R_append_rows k31 (w0 := w) w.heap.size rfl (.tmp 57) (.tmp 62) 22 31 (.agg #[(.int .i64 0), (.int .i64 0), (.int .i64 0), (.string ⟨#[]⟩)]) 40 rfl Try.underlying22 info31 rfl (by decide) (by omega) (.slice Ao46 x3_1.length co46) x3_1 y309 _ _ _ (fun k_ => some k_ ≠ (.slice Ao50 y309.length co50 : Value).ownBlock) (fun _ => False) rfl rfl ?aO ?aR (fun _ _ h => h) (fun _ h => h.elim) ?aF ?aB ?aS ?aL ?_; (case aR => repeat (first | exact (Kd.R_reads' HO311.out).2.2 | (with_reducible refine Kd.C_alloc ?_ _) | (with_reducible refine Kd.C_drewN ?_ _) | (with_reducible refine Kd.C_drew ?_))); (case aB => exact zb); (case aF => exact (fun k_ hk => Kd.fresh' (Kd.R_lt (zk HO311.out)) k_ hk)); (case aO => exact (by (with_reducible repeat (first | apply Kd.R_alloc | apply Kd.R_drewN | apply Kd.R_drew)); exact Kd.R_mono HO_3.out (fun _ hk => hk.2))); (case aS => exact (below_size zb)); (case aL => have := LMc45.out; omega); intro v313 w49 ho hb hg hat; rw [← Ny312.out] at ho; have n0_ := Aside0.mk (Kd.R_after (ok := (fun _ => True)) (zk HO311.out) hg hat); have n1_ := Aside0.mk (hb); have n2_ := Aside0.mk (ho); clear HO311; clear HB; clear HO_3; have HO311 := n0_; have HB := n1_; have HO314 := n2_; clear n0_ n1_ n2_; clear ho hb hg hat))
       go_roundg k1
       case measure => have := HK1.out; omega
       case rel => exact ⟨(y312), (wrap64 (x4_1 + 1)), (by first | rfl | (simp; done) | (simp [*]; done)), H', ⟨by have := HK1.out; omega⟩, ⟨by (with_reducible repeat (first | apply Kd.R_alloc | apply Kd.R_drewN | apply Kd.R_drew)); exact Kd.R_mono HO314.out (fun _ hk => trivial)⟩, ⟨by repeat (first | (with_reducible first | exact HB.out | apply below_alloc | apply pw_below_drewN | apply below_drew1) | exact HB.out)⟩⟩
      ·rw [if_neg c45] at H
       exact absurd H (by simp)
     ·rw [if_neg c44] at H
      exact absurd H (by simp)
   ·rw [if_neg c2] at H
    have c2b0 : decide (x4_1 < (l0.length : Int)) = false := decide_eq_false c2
    clear c2
    obtain rfl := Option.some.inj H
    go_wp2
    go_ret
    exact ⟨_, zr, by (with_reducible repeat (first | apply Kd.R_alloc | apply Kd.R_drewN | apply Kd.R_drew)); exact HO_3.out, by repeat (first | (with_reducible first | exact HB.out | apply below_alloc | apply pw_below_drewN | apply below_drew1) | exact HB.out)⟩

end Go.Proofs.Ytddkmhkglmcihaa.PAll
