-- Printed for this claim by the session's own program (wip/tool/hprint.py) over the kit's print; some functions' texts are the session's own.
import Derived.Test.YtddkmhkglmcihaaPAllx0
import Derived.Test.YtddkmhkglmcihaaPAllx11
namespace Go.Proofs.Ytddkmhkglmcihaa.PAll
open Go.RowKit Go.Proofs.YtddkmhkglmcihaaW.PrintWords Go.Proofs.YtddkmhkglmcihaaW.PrintLast Go.Proofs.YtddkmhkglmcihaaW.PrintMore
attribute [local go_sem] max2_int min2_int max_two min_two max_three min_three max_four min_four   -- for this text's walks alone
set_option linter.unusedVariables false
set_option linter.unusedSimpArgs false

/-! ### dactylref10_May: function 13 -/
def dactylref10_May.j0 : Nat → Bool → Int → Int → Int → ByteArray → Option (Bool)
 | 0, _, _, _, _, _ => none
 | k + 1, x10, x247000, x247001, x247002, x247003 => if x10 = true then (some false) else (if x247000 = 0 then (if x247001 = 0 then (if x247002 = 0 then (if x247003.toList = ([] : List UInt8) then (some false) else ((dactylref10_Cols.f k x247003).bind fun t247 => (some (decide (t247 ≥ 0))))) else (some false)) else (some false)) else (if x247003.toList = ([] : List UInt8) then (if x247000 = 1 then (if x247001 ≥ 1 then (if x247001 ≤ 1000 then (if x247002 ≥ 1 then (some (decide (x247002 ≤ 1000))) else (some false)) else (some false)) else (some false)) else (if x247002 = 0 then (if x247000 = 4 then (if x247001 ≥ 0 then (some (decide (x247001 ≤ 7))) else (some false)) else (if x247000 = 5 then (if x247001 = 0 then (some true) else (some (x247001 == 1))) else (some (x247001 == 0)))) else (some false))) else (some false)))
def dactylref10_May.f (k : Nat) (a0_0 : Int) (a0_1 : Int) (a0_2 : Int) (a0_3 : ByteArray) : Option (Bool) := if a0_0 < 0 then (dactylref10_May.j0 k true a0_0 a0_1 a0_2 a0_3) else (dactylref10_May.j0 k (decide (a0_0 > 8)) a0_0 a0_1 a0_2 a0_3)
theorem dactylref10_May.mono_l : ∀ k, (∀ y0 y1 y2 y3 y4, LeO (dactylref10_May.j0 k y0 y1 y2 y3 y4) (dactylref10_May.j0 (k + 1) y0 y1 y2 y3 y4))
 | 0 => fun _ _ _ _ _ r h => by simp [dactylref10_May.j0] at h
 | k + 1 => by
  have ih0 := dactylref10_May.mono_l k
  ·intro y0 y1 y2 y3 y4
   unfold dactylref10_May.j0
   repeat' first
   | (with_reducible exact ih0 _ _ _ _ _)
   | (with_reducible exact dactylref10_Cols.mono _ _)
   | (with_reducible exact LeO.refl _)
   | (with_reducible exact LeO.none _)
   | (with_reducible refine LeO.ite ?_ ?_)
   | (with_reducible refine LeO.bind ?_ (fun _ => ?_))
   | exact ih0 _ _ _ _ _
   | exact dactylref10_Cols.mono _ _
   | exact LeO.none _
   | refine LeO.ite ?_ ?_
   | refine LeO.bind ?_ (fun _ => ?_)
theorem dactylref10_May.mono : ∀ a0 a1 a2 a3 k, LeO (dactylref10_May.f k a0 a1 a2 a3) (dactylref10_May.f (k + 1) a0 a1 a2 a3) := by
 intro a0 a1 a2 a3 k
 have ih0 := dactylref10_May.mono_l k
 unfold dactylref10_May.f
 repeat' first
   | (with_reducible exact ih0 _ _ _ _ _)
   | (with_reducible exact dactylref10_Cols.mono _ _)
   | (with_reducible exact LeO.refl _)
   | (with_reducible exact LeO.none _)
   | (with_reducible refine LeO.ite ?_ ?_)
   | (with_reducible refine LeO.bind ?_ (fun _ => ?_))
   | exact ih0 _ _ _ _ _
   | exact dactylref10_Cols.mono _ _
   | exact LeO.none _
   | refine LeO.ite ?_ ?_
   | refine LeO.bind ?_ (fun _ => ?_)
set_option maxHeartbeats 8000000 in
set_option maxRecDepth 100000 in
theorem dactylref10_May.calls (k : Nat) (a0_0 : Int) (a0_1 : Int) (a0_2 : Int) (a0_3 : ByteArray) (r : Bool) (w : World) (h : dactylref10_May.f k a0_0 a0_1 a0_2 a0_3 = some r) :
  Calls Try.prog 13 #[.agg #[.int .i64 a0_0, .int .i64 a0_1, .int .i64 a0_2, .string a0_3]] w fun e w' => e = .returned (.bool r) ∧ Below w.heap.size w w' := by
 have hu31 := Try.underlying31
 have HB := Aside0.mk (Below.refl w.heap.size w)
 have H : (if a0_0 < 0 then (dactylref10_May.j0 k true a0_0 a0_1 a0_2 a0_3) else (dactylref10_May.j0 k (decide (a0_0 > 8)) a0_0 a0_1 a0_2 a0_3)) = some r := h
 clear h
 have HC2 := Aside0.mk H
 clear H
 go_enter Try.func13, Try.ntmps13
 go_upto_region 1 with (first | ((with_reducible refine gate_dst (N := 1) rfl ?_); refine box_event ?hg (N := 1) ?hd (cs := #[.int .i64 a0_0, .int .i64 a0_1, .int .i64 a0_2, .string a0_3]) (t := 31) ?hr ?_; (case hd => rfl); (case hg => rfl); (case hr => first | (go_simp; done) | (go_simp; rfl)); intro gb246 hg w3 hbox hb; have n0_ := Aside0.mk (below_step zb hb); have n1_ := Aside0.mk (hbox); have n2_ := Aside0.mk ((by rw [hg]; exact (below_size zb) : w.heap.size ≤ gb246)); have n3_ := Aside0.mk ((by rw [hg]; exact (below_size zb) : w.heap.size ≤ gb246)); clear HB; have HB := n0_; have BK246 := n1_; have GW246 := n2_; have GE246 := n3_; clear n0_ n1_ n2_ n3_; clear hb hbox hg))
 (try simp only [Act.put, List.setIfInBounds_toArray, List.set_cons_zero, List.set_cons_succ])
 go_cut [10] (fun v10 wc => ∃ (kq : Nat) (x10_1 : Bool), v10 = .bool x10_1 ∧ Aside0 (dactylref10_May.j0 kq x10_1 a0_0 a0_1 a0_2 a0_3 = some r) ∧ Aside0 (kq ≤ k) ∧ Aside0 (wc.heap[gb246]? = some (.cells #[.int .i64 a0_0, .int .i64 a0_1, .int .i64 a0_2, .string a0_3] 31 (0, 0))) ∧ Aside0 (Below w.heap.size w wc))
 case first =>
  have H := HC2.out
  clear HC2
  by_cases c4 : a0_0 < 0
  ·rw [if_pos c4] at H
   have c4b0 : decide (a0_0 < 0) = true := decide_eq_true c4
   clear c4
   (first | rw [c4b0] | (simp only [i64_w, i32_w]; rw [c4b0]) | skip)
   have H' := Aside0.mk H
   clear H
   have hcz5_0 : w3.cell? ⟨gb246, 0, none⟩ = some (.int .i64 a0_0) := (blk_cell BK246.out 0).trans rfl
   have hcz5_1 : w3.cell? ⟨gb246, 1, none⟩ = some (.int .i64 a0_1) := (blk_cell BK246.out 1).trans rfl
   have hcz5_2 : w3.cell? ⟨gb246, 2, none⟩ = some (.int .i64 a0_2) := (blk_cell BK246.out 2).trans rfl
   have hcz5_3 : w3.cell? ⟨gb246, 3, none⟩ = some (.string a0_3) := (blk_cell BK246.out 3).trans rfl
   have hfz5_0 := blk_frozen BK246.out 0
   have hfz5_1 := blk_frozen BK246.out 1
   have hfz5_2 := blk_frozen BK246.out 2
   have hfz5_3 := blk_frozen BK246.out 3
   go_wp2
   go_meet
   case rel => exact ⟨_, (true), (by first | rfl | (simp; done) | (simp [*]; done)), H', ⟨by first | omega | exact Nat.le_refl _⟩, ⟨by (with_reducible repeat (first | refine blk_drewN ?_ _ | refine blk_drew ?_ | refine blk_alloc ?_ _)); exact BK246.out⟩, ⟨by repeat (first | (with_reducible first | exact HB.out | apply below_alloc | apply pw_below_drewN | apply below_drew1 | refine below_set ?_ GE246.out) | exact HB.out)⟩⟩
  ·rw [if_neg c4] at H
   have c4b0 : decide (a0_0 < 0) = false := decide_eq_false c4
   clear c4
   (first | rw [c4b0] | (simp only [i64_w, i32_w]; rw [c4b0]) | skip)
   have H' := Aside0.mk H
   clear H
   have hcz6_0 : w3.cell? ⟨gb246, 0, none⟩ = some (.int .i64 a0_0) := (blk_cell BK246.out 0).trans rfl
   have hcz6_1 : w3.cell? ⟨gb246, 1, none⟩ = some (.int .i64 a0_1) := (blk_cell BK246.out 1).trans rfl
   have hcz6_2 : w3.cell? ⟨gb246, 2, none⟩ = some (.int .i64 a0_2) := (blk_cell BK246.out 2).trans rfl
   have hcz6_3 : w3.cell? ⟨gb246, 3, none⟩ = some (.string a0_3) := (blk_cell BK246.out 3).trans rfl
   have hfz6_0 := blk_frozen BK246.out 0
   have hfz6_1 := blk_frozen BK246.out 1
   have hfz6_2 := blk_frozen BK246.out 2
   have hfz6_3 := blk_frozen BK246.out 3
   go_wp2
   go_meet
   case rel => exact ⟨_, (decide (a0_0 > 8)), (by first | rfl | (simp; done) | (simp [*]; done)), H', ⟨by first | omega | exact Nat.le_refl _⟩, ⟨by (with_reducible repeat (first | refine blk_drewN ?_ _ | refine blk_drew ?_ | refine blk_alloc ?_ _)); exact BK246.out⟩, ⟨by repeat (first | (with_reducible first | exact HB.out | apply below_alloc | apply pw_below_drewN | apply below_drew1 | refine below_set ?_ GE246.out) | exact HB.out)⟩⟩
 case rest =>
  clear HC2
  try clear c1
  try clear p2
  try clear c4
  try clear c4b0
  try clear hcz5_0
  try clear hcz5_1
  try clear hcz5_2
  try clear hcz5_3
  try clear hcz6_0
  try clear hcz6_1
  try clear hcz6_2
  try clear hcz6_3
  try clear hfz5_0
  try clear hfz5_1
  try clear hfz5_2
  try clear hfz5_3
  try clear hfz6_0
  try clear hfz6_1
  try clear hfz6_2
  try clear hfz6_3
  obtain ⟨kq, x10_1, rfl, HA, HJ1, BK246, HB⟩ := hcut
  cases kq with
  | zero => exact absurd HA.out (by simp [dactylref10_May.j0])
  | succ kj1 =>
   have H := HA.out
   clear HA
   simp only [dactylref10_May.j0] at H
   by_cases c7 : x10_1 = true
   ·subst c7
    have H1 : (some false) = some r := by rw [if_pos rfl] at H; exact H
    clear H
    have H := H1
    clear H1
    obtain rfl := Option.some.inj H
    go_wp2
    go_ret
    exact ⟨zr, by repeat (first | (with_reducible first | exact HB.out | apply below_alloc | apply pw_below_drewN | apply below_drew1 | refine below_set ?_ GE246.out) | exact HB.out)⟩
   ·replace c7 := Bool.eq_false_iff.mpr c7
    subst c7
    have H1 : (if a0_0 = 0 then (if a0_1 = 0 then (if a0_2 = 0 then (if a0_3.toList = ([] : List UInt8) then (some false) else ((dactylref10_Cols.f kj1 a0_3).bind fun t247 => (some (decide (t247 ≥ 0))))) else (some false)) else (some false)) else (if a0_3.toList = ([] : List UInt8) then (if a0_0 = 1 then (if a0_1 ≥ 1 then (if a0_1 ≤ 1000 then (if a0_2 ≥ 1 then (some (decide (a0_2 ≤ 1000))) else (some false)) else (some false)) else (some false)) else (if a0_2 = 0 then (if a0_0 = 4 then (if a0_1 ≥ 0 then (some (decide (a0_1 ≤ 7))) else (some false)) else (if a0_0 = 5 then (if a0_1 = 0 then (some true) else (some (a0_1 == 1))) else (some (a0_1 == 0)))) else (some false))) else (some false))) = some r := by rw [if_neg (show ¬ (false = true) by decide)] at H; exact H
    clear H
    have H := H1
    clear H1
    by_cases c8 : a0_0 = 0
    ·rw [if_pos c8] at H
     have c8b0 : (a0_0 == 0) = true := beq_iff_eq.mpr c8
     have c8b1 : (a0_0 != 0) = false := bne_eq_false_iff_eq.mpr c8
     clear c8
     by_cases c9 : a0_1 = 0
     ·rw [if_pos c9] at H
      have c9b0 : (a0_1 == 0) = true := beq_iff_eq.mpr c9
      have c9b1 : (a0_1 != 0) = false := bne_eq_false_iff_eq.mpr c9
      clear c9
      by_cases c10 : a0_2 = 0
      ·rw [if_pos c10] at H
       have c10b0 : (a0_2 == 0) = true := beq_iff_eq.mpr c10
       have c10b1 : (a0_2 != 0) = false := bne_eq_false_iff_eq.mpr c10
       clear c10
       by_cases c11 : a0_3.toList = ([] : List UInt8)
       ·rw [if_pos c11] at H
        have c11b0 : (a0_3.toList == ([] : List UInt8)) = true := beq_iff_eq.mpr c11
        have c11b1 : (a0_3.toList != ([] : List UInt8)) = false := bne_eq_false_iff_eq.mpr c11
        clear c11
        obtain rfl := Option.some.inj H
        have hcz12_0 : wc.cell? ⟨gb246, 0, none⟩ = some (.int .i64 a0_0) := (blk_cell BK246.out 0).trans rfl
        have hcz12_1 : wc.cell? ⟨gb246, 1, none⟩ = some (.int .i64 a0_1) := (blk_cell BK246.out 1).trans rfl
        have hcz12_2 : wc.cell? ⟨gb246, 2, none⟩ = some (.int .i64 a0_2) := (blk_cell BK246.out 2).trans rfl
        have hcz12_3 : wc.cell? ⟨gb246, 3, none⟩ = some (.string a0_3) := (blk_cell BK246.out 3).trans rfl
        have hfz12_0 := blk_frozen BK246.out 0
        have hfz12_1 := blk_frozen BK246.out 1
        have hfz12_2 := blk_frozen BK246.out 2
        have hfz12_3 := blk_frozen BK246.out 3
        go_wp2
        go_ret
        exact ⟨zr, by repeat (first | (with_reducible first | exact HB.out | apply below_alloc | apply pw_below_drewN | apply below_drew1 | refine below_set ?_ GE246.out) | exact HB.out)⟩
       ·rw [if_neg c11] at H
        have c11b0 : (a0_3.toList == ([] : List UInt8)) = false := beq_eq_false_iff_ne.mpr c11
        have c11b1 : (a0_3.toList != ([] : List UInt8)) = true := bne_iff_ne.mpr c11
        replace H := Option.bind_eq_some_iff.mp H
        obtain ⟨t247, A130, H⟩ := H
        replace H : (some (decide (t247 ≥ 0))) = some r := H
        have A13 := Aside0.mk A130
        clear A130
        obtain rfl := Option.some.inj H
        have hcz14_0 : wc.cell? ⟨gb246, 0, none⟩ = some (.int .i64 a0_0) := (blk_cell BK246.out 0).trans rfl
        have hcz14_1 : wc.cell? ⟨gb246, 1, none⟩ = some (.int .i64 a0_1) := (blk_cell BK246.out 1).trans rfl
        have hcz14_2 : wc.cell? ⟨gb246, 2, none⟩ = some (.int .i64 a0_2) := (blk_cell BK246.out 2).trans rfl
        have hcz14_3 : wc.cell? ⟨gb246, 3, none⟩ = some (.string a0_3) := (blk_cell BK246.out 3).trans rfl
        have hfz14_0 := blk_frozen BK246.out 0
        have hfz14_1 := blk_frozen BK246.out 1
        have hfz14_2 := blk_frozen BK246.out 2
        have hfz14_3 := blk_frozen BK246.out 3
        go_wp2_with (first | (go_at_call 26; (with_reducible refine (dactylref10_Cols.calls kj1 a0_3 t247 _ A13.out).mono ?_); rintro e w15 ⟨rfl, hb⟩; have n0_ := Aside0.mk (blk_below (g := gb246) (o := .cells #[.int .i64 a0_0, .int .i64 a0_1, .int .i64 a0_2, .string a0_3] 31 (0, 0)) (zj BK246.out) hb); have n1_ := Aside0.mk (below_step (by repeat (first | (with_reducible first | exact HB.out | apply below_alloc | apply pw_below_drewN | apply below_drew1 | refine below_set ?_ GE246.out) | exact HB.out)) hb); clear BK246; clear HB; have BK246 := n0_; have HB := n1_; clear n0_ n1_; (try clear hb); (try clear hb2); (try clear hk); (try clear hi)))
        go_ret
        exact ⟨zr, by repeat (first | (with_reducible first | exact HB.out | apply below_alloc | apply pw_below_drewN | apply below_drew1 | refine below_set ?_ GE246.out) | exact HB.out)⟩
      ·rw [if_neg c10] at H
       have c10b0 : (a0_2 == 0) = false := beq_eq_false_iff_ne.mpr c10
       have c10b1 : (a0_2 != 0) = true := bne_iff_ne.mpr c10
       obtain rfl := Option.some.inj H
       have hcz16_0 : wc.cell? ⟨gb246, 0, none⟩ = some (.int .i64 a0_0) := (blk_cell BK246.out 0).trans rfl
       have hcz16_1 : wc.cell? ⟨gb246, 1, none⟩ = some (.int .i64 a0_1) := (blk_cell BK246.out 1).trans rfl
       have hcz16_2 : wc.cell? ⟨gb246, 2, none⟩ = some (.int .i64 a0_2) := (blk_cell BK246.out 2).trans rfl
       have hcz16_3 : wc.cell? ⟨gb246, 3, none⟩ = some (.string a0_3) := (blk_cell BK246.out 3).trans rfl
       have hfz16_0 := blk_frozen BK246.out 0
       have hfz16_1 := blk_frozen BK246.out 1
       have hfz16_2 := blk_frozen BK246.out 2
       have hfz16_3 := blk_frozen BK246.out 3
       go_wp2
       go_ret
       exact ⟨zr, by repeat (first | (with_reducible first | exact HB.out | apply below_alloc | apply pw_below_drewN | apply below_drew1 | refine below_set ?_ GE246.out) | exact HB.out)⟩
     ·rw [if_neg c9] at H
      have c9b0 : (a0_1 == 0) = false := beq_eq_false_iff_ne.mpr c9
      have c9b1 : (a0_1 != 0) = true := bne_iff_ne.mpr c9
      obtain rfl := Option.some.inj H
      have hcz17_0 : wc.cell? ⟨gb246, 0, none⟩ = some (.int .i64 a0_0) := (blk_cell BK246.out 0).trans rfl
      have hcz17_1 : wc.cell? ⟨gb246, 1, none⟩ = some (.int .i64 a0_1) := (blk_cell BK246.out 1).trans rfl
      have hcz17_2 : wc.cell? ⟨gb246, 2, none⟩ = some (.int .i64 a0_2) := (blk_cell BK246.out 2).trans rfl
      have hcz17_3 : wc.cell? ⟨gb246, 3, none⟩ = some (.string a0_3) := (blk_cell BK246.out 3).trans rfl
      have hfz17_0 := blk_frozen BK246.out 0
      have hfz17_1 := blk_frozen BK246.out 1
      have hfz17_2 := blk_frozen BK246.out 2
      have hfz17_3 := blk_frozen BK246.out 3
      go_wp2
      go_ret
      exact ⟨zr, by repeat (first | (with_reducible first | exact HB.out | apply below_alloc | apply pw_below_drewN | apply below_drew1 | refine below_set ?_ GE246.out) | exact HB.out)⟩
    ·rw [if_neg c8] at H
     have c8b0 : (a0_0 == 0) = false := beq_eq_false_iff_ne.mpr c8
     have c8b1 : (a0_0 != 0) = true := bne_iff_ne.mpr c8
     by_cases c18 : a0_3.toList = ([] : List UInt8)
     ·rw [if_pos c18] at H
      have c18b0 : (a0_3.toList == ([] : List UInt8)) = true := beq_iff_eq.mpr c18
      have c18b1 : (a0_3.toList != ([] : List UInt8)) = false := bne_eq_false_iff_eq.mpr c18
      clear c18
      by_cases c19 : a0_0 = 1
      ·rw [if_pos c19] at H
       have c19b0 : (a0_0 == 1) = true := beq_iff_eq.mpr c19
       have c19b1 : (a0_0 != 1) = false := bne_eq_false_iff_eq.mpr c19
       clear c19
       by_cases c20 : a0_1 ≥ 1
       ·rw [if_pos c20] at H
        have c20b0 : decide (1 ≤ a0_1) = true := decide_eq_true c20
        clear c20
        by_cases c21 : a0_1 ≤ 1000
        ·rw [if_pos c21] at H
         have c21b0 : decide (a0_1 ≤ 1000) = true := decide_eq_true c21
         clear c21
         by_cases c22 : a0_2 ≥ 1
         ·rw [if_pos c22] at H
          have c22b0 : decide (1 ≤ a0_2) = true := decide_eq_true c22
          clear c22
          obtain rfl := Option.some.inj H
          have hcz23_0 : wc.cell? ⟨gb246, 0, none⟩ = some (.int .i64 a0_0) := (blk_cell BK246.out 0).trans rfl
          have hcz23_1 : wc.cell? ⟨gb246, 1, none⟩ = some (.int .i64 a0_1) := (blk_cell BK246.out 1).trans rfl
          have hcz23_2 : wc.cell? ⟨gb246, 2, none⟩ = some (.int .i64 a0_2) := (blk_cell BK246.out 2).trans rfl
          have hcz23_3 : wc.cell? ⟨gb246, 3, none⟩ = some (.string a0_3) := (blk_cell BK246.out 3).trans rfl
          have hfz23_0 := blk_frozen BK246.out 0
          have hfz23_1 := blk_frozen BK246.out 1
          have hfz23_2 := blk_frozen BK246.out 2
          have hfz23_3 := blk_frozen BK246.out 3
          go_wp2
          go_ret
          exact ⟨zr, by repeat (first | (with_reducible first | exact HB.out | apply below_alloc | apply pw_below_drewN | apply below_drew1 | refine below_set ?_ GE246.out) | exact HB.out)⟩
         ·rw [if_neg c22] at H
          have c22b0 : decide (1 ≤ a0_2) = false := decide_eq_false c22
          clear c22
          obtain rfl := Option.some.inj H
          have hcz24_0 : wc.cell? ⟨gb246, 0, none⟩ = some (.int .i64 a0_0) := (blk_cell BK246.out 0).trans rfl
          have hcz24_1 : wc.cell? ⟨gb246, 1, none⟩ = some (.int .i64 a0_1) := (blk_cell BK246.out 1).trans rfl
          have hcz24_2 : wc.cell? ⟨gb246, 2, none⟩ = some (.int .i64 a0_2) := (blk_cell BK246.out 2).trans rfl
          have hcz24_3 : wc.cell? ⟨gb246, 3, none⟩ = some (.string a0_3) := (blk_cell BK246.out 3).trans rfl
          have hfz24_0 := blk_frozen BK246.out 0
          have hfz24_1 := blk_frozen BK246.out 1
          have hfz24_2 := blk_frozen BK246.out 2
          have hfz24_3 := blk_frozen BK246.out 3
          go_wp2
          go_ret
          exact ⟨zr, by repeat (first | (with_reducible first | exact HB.out | apply below_alloc | apply pw_below_drewN | apply below_drew1 | refine below_set ?_ GE246.out) | exact HB.out)⟩
        ·rw [if_neg c21] at H
         have c21b0 : decide (a0_1 ≤ 1000) = false := decide_eq_false c21
         clear c21
         obtain rfl := Option.some.inj H
         have hcz25_0 : wc.cell? ⟨gb246, 0, none⟩ = some (.int .i64 a0_0) := (blk_cell BK246.out 0).trans rfl
         have hcz25_1 : wc.cell? ⟨gb246, 1, none⟩ = some (.int .i64 a0_1) := (blk_cell BK246.out 1).trans rfl
         have hcz25_2 : wc.cell? ⟨gb246, 2, none⟩ = some (.int .i64 a0_2) := (blk_cell BK246.out 2).trans rfl
         have hcz25_3 : wc.cell? ⟨gb246, 3, none⟩ = some (.string a0_3) := (blk_cell BK246.out 3).trans rfl
         have hfz25_0 := blk_frozen BK246.out 0
         have hfz25_1 := blk_frozen BK246.out 1
         have hfz25_2 := blk_frozen BK246.out 2
         have hfz25_3 := blk_frozen BK246.out 3
         go_wp2
         go_ret
         exact ⟨zr, by repeat (first | (with_reducible first | exact HB.out | apply below_alloc | apply pw_below_drewN | apply below_drew1 | refine below_set ?_ GE246.out) | exact HB.out)⟩
       ·rw [if_neg c20] at H
        have c20b0 : decide (1 ≤ a0_1) = false := decide_eq_false c20
        clear c20
        obtain rfl := Option.some.inj H
        have hcz26_0 : wc.cell? ⟨gb246, 0, none⟩ = some (.int .i64 a0_0) := (blk_cell BK246.out 0).trans rfl
        have hcz26_1 : wc.cell? ⟨gb246, 1, none⟩ = some (.int .i64 a0_1) := (blk_cell BK246.out 1).trans rfl
        have hcz26_2 : wc.cell? ⟨gb246, 2, none⟩ = some (.int .i64 a0_2) := (blk_cell BK246.out 2).trans rfl
        have hcz26_3 : wc.cell? ⟨gb246, 3, none⟩ = some (.string a0_3) := (blk_cell BK246.out 3).trans rfl
        have hfz26_0 := blk_frozen BK246.out 0
        have hfz26_1 := blk_frozen BK246.out 1
        have hfz26_2 := blk_frozen BK246.out 2
        have hfz26_3 := blk_frozen BK246.out 3
        go_wp2
        go_ret
        exact ⟨zr, by repeat (first | (with_reducible first | exact HB.out | apply below_alloc | apply pw_below_drewN | apply below_drew1 | refine below_set ?_ GE246.out) | exact HB.out)⟩
      ·rw [if_neg c19] at H
       have c19b0 : (a0_0 == 1) = false := beq_eq_false_iff_ne.mpr c19
       have c19b1 : (a0_0 != 1) = true := bne_iff_ne.mpr c19
       by_cases c27 : a0_2 = 0
       ·rw [if_pos c27] at H
        have c27b0 : (a0_2 == 0) = true := beq_iff_eq.mpr c27
        have c27b1 : (a0_2 != 0) = false := bne_eq_false_iff_eq.mpr c27
        clear c27
        by_cases c28 : a0_0 = 4
        ·rw [if_pos c28] at H
         have c28b0 : (a0_0 == 4) = true := beq_iff_eq.mpr c28
         have c28b1 : (a0_0 != 4) = false := bne_eq_false_iff_eq.mpr c28
         clear c28
         by_cases c29 : a0_1 ≥ 0
         ·rw [if_pos c29] at H
          have c29b0 : decide (0 ≤ a0_1) = true := decide_eq_true c29
          clear c29
          obtain rfl := Option.some.inj H
          have hcz30_0 : wc.cell? ⟨gb246, 0, none⟩ = some (.int .i64 a0_0) := (blk_cell BK246.out 0).trans rfl
          have hcz30_1 : wc.cell? ⟨gb246, 1, none⟩ = some (.int .i64 a0_1) := (blk_cell BK246.out 1).trans rfl
          have hcz30_2 : wc.cell? ⟨gb246, 2, none⟩ = some (.int .i64 a0_2) := (blk_cell BK246.out 2).trans rfl
          have hcz30_3 : wc.cell? ⟨gb246, 3, none⟩ = some (.string a0_3) := (blk_cell BK246.out 3).trans rfl
          have hfz30_0 := blk_frozen BK246.out 0
          have hfz30_1 := blk_frozen BK246.out 1
          have hfz30_2 := blk_frozen BK246.out 2
          have hfz30_3 := blk_frozen BK246.out 3
          go_wp2
          go_ret
          exact ⟨zr, by repeat (first | (with_reducible first | exact HB.out | apply below_alloc | apply pw_below_drewN | apply below_drew1 | refine below_set ?_ GE246.out) | exact HB.out)⟩
         ·rw [if_neg c29] at H
          have c29b0 : decide (0 ≤ a0_1) = false := decide_eq_false c29
          clear c29
          obtain rfl := Option.some.inj H
          have hcz31_0 : wc.cell? ⟨gb246, 0, none⟩ = some (.int .i64 a0_0) := (blk_cell BK246.out 0).trans rfl
          have hcz31_1 : wc.cell? ⟨gb246, 1, none⟩ = some (.int .i64 a0_1) := (blk_cell BK246.out 1).trans rfl
          have hcz31_2 : wc.cell? ⟨gb246, 2, none⟩ = some (.int .i64 a0_2) := (blk_cell BK246.out 2).trans rfl
          have hcz31_3 : wc.cell? ⟨gb246, 3, none⟩ = some (.string a0_3) := (blk_cell BK246.out 3).trans rfl
          have hfz31_0 := blk_frozen BK246.out 0
          have hfz31_1 := blk_frozen BK246.out 1
          have hfz31_2 := blk_frozen BK246.out 2
          have hfz31_3 := blk_frozen BK246.out 3
          go_wp2
          go_ret
          exact ⟨zr, by repeat (first | (with_reducible first | exact HB.out | apply below_alloc | apply pw_below_drewN | apply below_drew1 | refine below_set ?_ GE246.out) | exact HB.out)⟩
        ·rw [if_neg c28] at H
         have c28b0 : (a0_0 == 4) = false := beq_eq_false_iff_ne.mpr c28
         have c28b1 : (a0_0 != 4) = true := bne_iff_ne.mpr c28
         by_cases c32 : a0_0 = 5
         ·rw [if_pos c32] at H
          have c32b0 : (a0_0 == 5) = true := beq_iff_eq.mpr c32
          have c32b1 : (a0_0 != 5) = false := bne_eq_false_iff_eq.mpr c32
          clear c32
          by_cases c33 : a0_1 = 0
          ·rw [if_pos c33] at H
           have c33b0 : (a0_1 == 0) = true := beq_iff_eq.mpr c33
           have c33b1 : (a0_1 != 0) = false := bne_eq_false_iff_eq.mpr c33
           clear c33
           obtain rfl := Option.some.inj H
           have hcz34_0 : wc.cell? ⟨gb246, 0, none⟩ = some (.int .i64 a0_0) := (blk_cell BK246.out 0).trans rfl
           have hcz34_1 : wc.cell? ⟨gb246, 1, none⟩ = some (.int .i64 a0_1) := (blk_cell BK246.out 1).trans rfl
           have hcz34_2 : wc.cell? ⟨gb246, 2, none⟩ = some (.int .i64 a0_2) := (blk_cell BK246.out 2).trans rfl
           have hcz34_3 : wc.cell? ⟨gb246, 3, none⟩ = some (.string a0_3) := (blk_cell BK246.out 3).trans rfl
           have hfz34_0 := blk_frozen BK246.out 0
           have hfz34_1 := blk_frozen BK246.out 1
           have hfz34_2 := blk_frozen BK246.out 2
           have hfz34_3 := blk_frozen BK246.out 3
           go_wp2
           go_ret
           exact ⟨zr, by repeat (first | (with_reducible first | exact HB.out | apply below_alloc | apply pw_below_drewN | apply below_drew1 | refine below_set ?_ GE246.out) | exact HB.out)⟩
          ·rw [if_neg c33] at H
           have c33b0 : (a0_1 == 0) = false := beq_eq_false_iff_ne.mpr c33
           have c33b1 : (a0_1 != 0) = true := bne_iff_ne.mpr c33
           obtain rfl := Option.some.inj H
           have hcz35_0 : wc.cell? ⟨gb246, 0, none⟩ = some (.int .i64 a0_0) := (blk_cell BK246.out 0).trans rfl
           have hcz35_1 : wc.cell? ⟨gb246, 1, none⟩ = some (.int .i64 a0_1) := (blk_cell BK246.out 1).trans rfl
           have hcz35_2 : wc.cell? ⟨gb246, 2, none⟩ = some (.int .i64 a0_2) := (blk_cell BK246.out 2).trans rfl
           have hcz35_3 : wc.cell? ⟨gb246, 3, none⟩ = some (.string a0_3) := (blk_cell BK246.out 3).trans rfl
           have hfz35_0 := blk_frozen BK246.out 0
           have hfz35_1 := blk_frozen BK246.out 1
           have hfz35_2 := blk_frozen BK246.out 2
           have hfz35_3 := blk_frozen BK246.out 3
           go_wp2
           go_ret
           exact ⟨zr, by repeat (first | (with_reducible first | exact HB.out | apply below_alloc | apply pw_below_drewN | apply below_drew1 | refine below_set ?_ GE246.out) | exact HB.out)⟩
         ·rw [if_neg c32] at H
          have c32b0 : (a0_0 == 5) = false := beq_eq_false_iff_ne.mpr c32
          have c32b1 : (a0_0 != 5) = true := bne_iff_ne.mpr c32
          obtain rfl := Option.some.inj H
          have hcz36_0 : wc.cell? ⟨gb246, 0, none⟩ = some (.int .i64 a0_0) := (blk_cell BK246.out 0).trans rfl
          have hcz36_1 : wc.cell? ⟨gb246, 1, none⟩ = some (.int .i64 a0_1) := (blk_cell BK246.out 1).trans rfl
          have hcz36_2 : wc.cell? ⟨gb246, 2, none⟩ = some (.int .i64 a0_2) := (blk_cell BK246.out 2).trans rfl
          have hcz36_3 : wc.cell? ⟨gb246, 3, none⟩ = some (.string a0_3) := (blk_cell BK246.out 3).trans rfl
          have hfz36_0 := blk_frozen BK246.out 0
          have hfz36_1 := blk_frozen BK246.out 1
          have hfz36_2 := blk_frozen BK246.out 2
          have hfz36_3 := blk_frozen BK246.out 3
          go_wp2
          go_ret
          exact ⟨zr, by repeat (first | (with_reducible first | exact HB.out | apply below_alloc | apply pw_below_drewN | apply below_drew1 | refine below_set ?_ GE246.out) | exact HB.out)⟩
       ·rw [if_neg c27] at H
        have c27b0 : (a0_2 == 0) = false := beq_eq_false_iff_ne.mpr c27
        have c27b1 : (a0_2 != 0) = true := bne_iff_ne.mpr c27
        obtain rfl := Option.some.inj H
        have hcz37_0 : wc.cell? ⟨gb246, 0, none⟩ = some (.int .i64 a0_0) := (blk_cell BK246.out 0).trans rfl
        have hcz37_1 : wc.cell? ⟨gb246, 1, none⟩ = some (.int .i64 a0_1) := (blk_cell BK246.out 1).trans rfl
        have hcz37_2 : wc.cell? ⟨gb246, 2, none⟩ = some (.int .i64 a0_2) := (blk_cell BK246.out 2).trans rfl
        have hcz37_3 : wc.cell? ⟨gb246, 3, none⟩ = some (.string a0_3) := (blk_cell BK246.out 3).trans rfl
        have hfz37_0 := blk_frozen BK246.out 0
        have hfz37_1 := blk_frozen BK246.out 1
        have hfz37_2 := blk_frozen BK246.out 2
        have hfz37_3 := blk_frozen BK246.out 3
        go_wp2
        go_ret
        exact ⟨zr, by repeat (first | (with_reducible first | exact HB.out | apply below_alloc | apply pw_below_drewN | apply below_drew1 | refine below_set ?_ GE246.out) | exact HB.out)⟩
     ·rw [if_neg c18] at H
      have c18b0 : (a0_3.toList == ([] : List UInt8)) = false := beq_eq_false_iff_ne.mpr c18
      have c18b1 : (a0_3.toList != ([] : List UInt8)) = true := bne_iff_ne.mpr c18
      obtain rfl := Option.some.inj H
      have hcz38_0 : wc.cell? ⟨gb246, 0, none⟩ = some (.int .i64 a0_0) := (blk_cell BK246.out 0).trans rfl
      have hcz38_1 : wc.cell? ⟨gb246, 1, none⟩ = some (.int .i64 a0_1) := (blk_cell BK246.out 1).trans rfl
      have hcz38_2 : wc.cell? ⟨gb246, 2, none⟩ = some (.int .i64 a0_2) := (blk_cell BK246.out 2).trans rfl
      have hcz38_3 : wc.cell? ⟨gb246, 3, none⟩ = some (.string a0_3) := (blk_cell BK246.out 3).trans rfl
      have hfz38_0 := blk_frozen BK246.out 0
      have hfz38_1 := blk_frozen BK246.out 1
      have hfz38_2 := blk_frozen BK246.out 2
      have hfz38_3 := blk_frozen BK246.out 3
      go_wp2
      go_ret
      exact ⟨zr, by repeat (first | (with_reducible first | exact HB.out | apply below_alloc | apply pw_below_drewN | apply below_drew1 | refine below_set ?_ GE246.out) | exact HB.out)⟩

/-! ### dactylref10_All: function 14 -/
def dactylref10_All.l0 : Nat → List (S31) → Int → Option (Bool)
 | 0, _, _ => none
 | k + 1, x0, x3 => if x3 < (x0.length : Int) then (if 0 ≤ x3 then ((dactylref10_May.f k ((rd_T31 x0 x3).f0) ((rd_T31 x0 x3).f1) ((rd_T31 x0 x3).f2) ((rd_T31 x0 x3).f3)).bind fun t249 => (if t249 = true then (dactylref10_All.l0 k x0 (wrap64 (x3 + 1))) else (some false))) else (none)) else (some true)
def dactylref10_All.f (k : Nat) (l0 : List (S31)) : Option (Bool) := dactylref10_All.l0 k l0 0
theorem dactylref10_All.mono_l : ∀ k, (∀ y0 y1, LeO (dactylref10_All.l0 k y0 y1) (dactylref10_All.l0 (k + 1) y0 y1))
 | 0 => fun _ _ r h => by simp [dactylref10_All.l0] at h
 | k + 1 => by
  have ih0 := dactylref10_All.mono_l k
  ·intro y0 y1
   unfold dactylref10_All.l0
   repeat' first
   | (with_reducible exact ih0 _ _)
   | (with_reducible exact dactylref10_May.mono _ _ _ _ _)
   | (with_reducible exact LeO.refl _)
   | (with_reducible exact LeO.none _)
   | (with_reducible refine LeO.ite ?_ ?_)
   | (with_reducible refine LeO.bind ?_ (fun _ => ?_))
   | exact ih0 _ _
   | exact dactylref10_May.mono _ _ _ _ _
   | exact LeO.none _
   | refine LeO.ite ?_ ?_
   | refine LeO.bind ?_ (fun _ => ?_)
theorem dactylref10_All.mono : ∀ a0 k, LeO (dactylref10_All.f k a0) (dactylref10_All.f (k + 1) a0) := by
 intro a0 k
 have ih0 := dactylref10_All.mono_l k
 unfold dactylref10_All.f
 repeat' first
   | (with_reducible exact ih0 _ _)
   | (with_reducible exact dactylref10_May.mono _ _ _ _ _)
   | (with_reducible exact LeO.refl _)
   | (with_reducible exact LeO.none _)
   | (with_reducible refine LeO.ite ?_ ?_)
   | (with_reducible refine LeO.bind ?_ (fun _ => ?_))
   | exact ih0 _ _
   | exact dactylref10_May.mono _ _ _ _ _
   | exact LeO.none _
   | refine LeO.ite ?_ ?_
   | refine LeO.bind ?_ (fun _ => ?_)
set_option maxHeartbeats 8000000 in
set_option maxRecDepth 100000 in
theorem dactylref10_All.calls (k : Nat) (A0 : Option Addr) (c0 : Nat) (l0 : List (S31)) (r : Bool) (w : World) (hr0 : Kd.C k31 w A0 l0.length l0) (hc0 : l0.length ≤ c0) (h : dactylref10_All.f k l0 = some r) :
  Calls Try.prog 14 #[.slice A0 l0.length c0] w fun e w' => e = .returned (.bool r) ∧ Below w.heap.size w w' := by
 have hu31 := Try.underlying31
 have HR0 := Aside0.mk hr0
 have HC0 := Aside0.mk hc0
 clear hr0 hc0
 have HB := Aside0.mk (Below.refl w.heap.size w)
 have H : (dactylref10_All.l0 k l0 0) = some r := h
 clear h
 have H' := Aside0.mk H
 clear H
 go_enter Try.func14, Try.ntmps14
 go_wp2
 go_loopg [3] k (fun kq v3 w' => ∃ (x3_1 : Int), v3 = .int .i64 x3_1 ∧ Aside0 (dactylref10_All.l0 kq l0 x3_1 = some r) ∧ Aside0 (kq ≤ k) ∧ Aside0 (Below w.heap.size w w'))
 case atStart => exact ⟨(0), (by first | rfl | (simp; done) | (simp [*]; done)), H', ⟨Nat.le_refl _⟩, ⟨by repeat (first | (with_reducible first | exact HB.out | apply below_alloc | apply pw_below_drewN | apply below_drew1) | exact HB.out)⟩⟩
 case round =>
  clear H'
  try clear c1
  obtain ⟨x3_1, rfl, HA, HK1, HB⟩ := hrel
  cases gk with
  | zero => exact absurd HA.out (by simp [dactylref10_All.l0])
  | succ k1 =>
   have H := HA.out
   clear HA
   simp only [dactylref10_All.l0] at H
   by_cases c2 : x3_1 < (l0.length : Int)
   ·rw [if_pos c2] at H
    have c2b0 : decide (x3_1 < (l0.length : Int)) = true := decide_eq_true c2
    clear c2
    by_cases c3 : 0 ≤ x3_1
    ·rw [if_pos c3] at H
     have c3b0 : decide (0 ≤ x3_1) = true := decide_eq_true c3
     clear c3
     replace H := Option.bind_eq_some_iff.mp H
     obtain ⟨t249, A40, H⟩ := H
     replace H : (if t249 = true then (dactylref10_All.l0 k1 l0 (wrap64 (x3_1 + 1))) else (some false)) = some r := H
     have A4 := Aside0.mk A40
     clear A40
     by_cases c5 : t249 = true
     ·subst c5
      have H1 : (dactylref10_All.l0 k1 l0 (wrap64 (x3_1 + 1))) = some r := by rw [if_pos rfl] at H; exact H
      clear H
      have H := H1
      clear H1
      have H' := Aside0.mk H
      clear H
      have p248 : 0 ≤ (x3_1 : Int) := of_decide_eq_true za
      have q248 : x3_1 < (l0.length : Int) := of_decide_eq_true za
      obtain ⟨ad248, e248, hx248_0, hx248_1, hx248_2, hx248_3⟩ := at_T31 HR0.out x3_1 p248 q248
      cases e248
      replace hx248_0 := (HB.out.cell (World.block_lt_of_cell? w _ hx248_0)).trans hx248_0
      replace hx248_1 := (HB.out.cell (World.block_lt_of_cell? w _ hx248_1)).trans hx248_1
      replace hx248_2 := (HB.out.cell (World.block_lt_of_cell? w _ hx248_2)).trans hx248_2
      replace hx248_3 := (HB.out.cell (World.block_lt_of_cell? w _ hx248_3)).trans hx248_3
      replace p248 := eq_true p248
      replace q248 := eq_true q248
      go_wp2_with (first | ((with_reducible refine gate_callee (f := 13) rfl ?_); refine goesL_ (some 14) rfl rfl Try.func13 (by kernel_rfl) rfl #[.agg #[.int .i64 ((rd_T31 l0 x3_1).f0), .int .i64 ((rd_T31 l0 x3_1).f1), .int .i64 ((rd_T31 l0 x3_1).f2), .string ((rd_T31 l0 x3_1).f3)]] rfl zl ?_; (with_reducible refine (dactylref10_May.calls k1 ((rd_T31 l0 x3_1).f0) ((rd_T31 l0 x3_1).f1) ((rd_T31 l0 x3_1).f2) ((rd_T31 l0 x3_1).f3) true _ A4.out).mono ?_); rintro e w6 ⟨rfl, hb⟩; refine ⟨_, rfl, ?_⟩; have n0_ := Aside0.mk (below_step zb hb); clear HB; have HB := n0_; clear n0_; (try clear hb); (try clear hb2); (try clear hk); (try clear hi)))
      go_roundg k1
      case measure => have := HK1.out; omega
      case rel => exact ⟨(wrap64 (x3_1 + 1)), (by first | rfl | (simp; done) | (simp [*]; done)), H', ⟨by have := HK1.out; omega⟩, ⟨by repeat (first | (with_reducible first | exact HB.out | apply below_alloc | apply pw_below_drewN | apply below_drew1) | exact HB.out)⟩⟩
     ·replace c5 := Bool.eq_false_iff.mpr c5
      subst c5
      have H1 : (some false) = some r := by rw [if_neg (show ¬ (false = true) by decide)] at H; exact H
      clear H
      have H := H1
      clear H1
      obtain rfl := Option.some.inj H
      have p248 : 0 ≤ (x3_1 : Int) := of_decide_eq_true za
      have q248 : x3_1 < (l0.length : Int) := of_decide_eq_true za
      obtain ⟨ad248, e248, hx248_0, hx248_1, hx248_2, hx248_3⟩ := at_T31 HR0.out x3_1 p248 q248
      cases e248
      replace hx248_0 := (HB.out.cell (World.block_lt_of_cell? w _ hx248_0)).trans hx248_0
      replace hx248_1 := (HB.out.cell (World.block_lt_of_cell? w _ hx248_1)).trans hx248_1
      replace hx248_2 := (HB.out.cell (World.block_lt_of_cell? w _ hx248_2)).trans hx248_2
      replace hx248_3 := (HB.out.cell (World.block_lt_of_cell? w _ hx248_3)).trans hx248_3
      replace p248 := eq_true p248
      replace q248 := eq_true q248
      go_wp2_with (first | ((with_reducible refine gate_callee (f := 13) rfl ?_); refine goesL_ (some 14) rfl rfl Try.func13 (by kernel_rfl) rfl #[.agg #[.int .i64 ((rd_T31 l0 x3_1).f0), .int .i64 ((rd_T31 l0 x3_1).f1), .int .i64 ((rd_T31 l0 x3_1).f2), .string ((rd_T31 l0 x3_1).f3)]] rfl zl ?_; (with_reducible refine (dactylref10_May.calls k1 ((rd_T31 l0 x3_1).f0) ((rd_T31 l0 x3_1).f1) ((rd_T31 l0 x3_1).f2) ((rd_T31 l0 x3_1).f3) false _ A4.out).mono ?_); rintro e w7 ⟨rfl, hb⟩; refine ⟨_, rfl, ?_⟩; have n0_ := Aside0.mk (below_step zb hb); clear HB; have HB := n0_; clear n0_; (try clear hb); (try clear hb2); (try clear hk); (try clear hi)))
      go_ret
      exact ⟨zr, zb⟩
    ·rw [if_neg c3] at H
     exact absurd H (by simp)
   ·rw [if_neg c2] at H
    have c2b0 : decide (x3_1 < (l0.length : Int)) = false := decide_eq_false c2
    clear c2
    obtain rfl := Option.some.inj H
    go_wp2
    go_ret
    exact ⟨zr, zb⟩

/-! ### dactylref01_Digit: function 57 -/
def dactylref01_Digit.f (a0 : Int) : Option (ByteArray) := if 0 ≤ a0 then (if a0 ≤ (wrap64 (a0 + 1)) then (if (wrap64 (a0 + 1)) ≤ 16 then (some ((⟨#[48, 49, 50, 51, 52, 53, 54, 55, 56, 57, 65, 66, 67, 68, 69, 70]⟩ : ByteArray).extract (a0 : Int).toNat ((wrap64 (a0 + 1)) : Int).toNat)) else (none)) else (none)) else (none)
set_option maxHeartbeats 8000000 in
set_option maxRecDepth 100000 in
theorem dactylref01_Digit.calls (a0 : Int) (r : ByteArray) (w : World) (h : dactylref01_Digit.f a0 = some r) :
  Calls Try.prog 57 #[.int .i64 a0] w fun e w' => e = .returned (.string r) ∧ Drawn0 w w' := by
 have H : (if 0 ≤ a0 then (if a0 ≤ (wrap64 (a0 + 1)) then (if (wrap64 (a0 + 1)) ≤ 16 then (some ((⟨#[48, 49, 50, 51, 52, 53, 54, 55, 56, 57, 65, 66, 67, 68, 69, 70]⟩ : ByteArray).extract (a0 : Int).toNat ((wrap64 (a0 + 1)) : Int).toNat)) else (none)) else (none)) else (none)) = some r := h
 clear h
 by_cases c2 : 0 ≤ a0
 ·rw [if_pos c2] at H
  have c2b0 := eq_true c2
  have c2b1 : decide (0 ≤ a0) = true := decide_eq_true c2
  clear c2
  by_cases c3 : a0 ≤ (wrap64 (a0 + 1))
  ·rw [if_pos c3] at H
   have c3b0 := eq_true c3
   have c3b1 : decide (a0 ≤ (wrap64 (a0 + 1))) = true := decide_eq_true c3
   by_cases c4 : (wrap64 (a0 + 1)) ≤ 16
   ·rw [if_pos c4] at H
    have c4b0 := eq_true c4
    have c4b1 : decide ((wrap64 (a0 + 1)) ≤ 16) = true := decide_eq_true c4
    obtain rfl := Option.some.inj H
    go_enter Try.func57, Try.ntmps57
    go_wp2
    go_ret
    exact ⟨by first | rfl | (simp; done) | (simp [*]; done), by repeat (first | exact Drawn0.refl _ | apply Drawn0.step)⟩
   ·rw [if_neg c4] at H
    exact absurd H (by simp)
  ·rw [if_neg c3] at H
   exact absurd H (by simp)
 ·rw [if_neg c2] at H
  exact absurd H (by simp)

/-! ### dactylref01_Dec: function 46 -/
mutual
def dactylref01_Dec.j0 : Nat → Int → Bool → Option (ByteArray)
 | 0, _, _ => none
 | k + 1, x0, x8 => if x8 = true then ((dactylref01_Digit.f (wrap64 (-x0))).bind fun t250 => (if 1 + t250.size ≤ 9223372036854775807 then (some ((⟨#[45]⟩ : ByteArray) ++ t250)) else (none))) else (if x0 < 0 then ((dactylref01_Dec.f k (wrap64 (Int.tdiv x0 10))).bind fun t251 => ((dactylref01_Digit.f (wrap64 (-(Int.tmod x0 10)))).bind fun t252 => (if t251.size + t252.size ≤ 9223372036854775807 then (some (t251 ++ t252)) else (none)))) else (if x0 < 10 then ((dactylref01_Digit.f x0).bind fun t253 => (some t253)) else ((dactylref01_Dec.f k (wrap64 (Int.tdiv x0 10))).bind fun t254 => ((dactylref01_Digit.f (Int.tmod x0 10)).bind fun t255 => (if t254.size + t255.size ≤ 9223372036854775807 then (some (t254 ++ t255)) else (none))))))
def dactylref01_Dec.f : Nat → Int → Option (ByteArray)
 | 0, _ => none
 | k + 1, a0 => if a0 < 0 then (dactylref01_Dec.j0 k a0 (decide (a0 > (-10)))) else (dactylref01_Dec.j0 k a0 false)
end
theorem dactylref01_Dec.mono_l : ∀ k, (∀ y0, LeO (dactylref01_Dec.f k y0) (dactylref01_Dec.f (k + 1) y0)) ∧ (∀ y0 y1, LeO (dactylref01_Dec.j0 k y0 y1) (dactylref01_Dec.j0 (k + 1) y0 y1))
 | 0 => ⟨fun _ r h => by simp [dactylref01_Dec.f] at h, fun _ _ r h => by simp [dactylref01_Dec.j0] at h⟩
 | k + 1 => by
  obtain ⟨ih0, ih1⟩ := dactylref01_Dec.mono_l k
  refine ⟨?_, ?_⟩
  ·intro y0
   unfold dactylref01_Dec.f
   repeat' first
   | (with_reducible exact ih0 _)
   | (with_reducible exact ih1 _ _)
   | (with_reducible exact LeO.refl _)
   | (with_reducible exact LeO.none _)
   | (with_reducible refine LeO.ite ?_ ?_)
   | (with_reducible refine LeO.bind ?_ (fun _ => ?_))
   | exact ih0 _
   | exact ih1 _ _
   | exact LeO.none _
   | refine LeO.ite ?_ ?_
   | refine LeO.bind ?_ (fun _ => ?_)
  ·intro y0 y1
   unfold dactylref01_Dec.j0
   repeat' first
   | (with_reducible exact ih0 _)
   | (with_reducible exact ih1 _ _)
   | (with_reducible exact LeO.refl _)
   | (with_reducible exact LeO.none _)
   | (with_reducible refine LeO.ite ?_ ?_)
   | (with_reducible refine LeO.bind ?_ (fun _ => ?_))
   | exact ih0 _
   | exact ih1 _ _
   | exact LeO.none _
   | refine LeO.ite ?_ ?_
   | refine LeO.bind ?_ (fun _ => ?_)
theorem dactylref01_Dec.mono : ∀ a0 k, LeO (dactylref01_Dec.f k a0) (dactylref01_Dec.f (k + 1) a0) := by
 intro a0 k
 obtain ⟨ih0, ih1⟩ := dactylref01_Dec.mono_l k
 exact ih0 a0
set_option maxHeartbeats 8000000 in
set_option maxRecDepth 100000 in
theorem dactylref01_Dec.calls (k : Nat) : ∀ (a0 : Int) (r : ByteArray) (w : World) (h : dactylref01_Dec.f k a0 = some r),
  Calls Try.prog 46 #[.int .i64 a0] w fun e w' => e = .returned (.string r) ∧ Drawn0 w w' := by
 induction k using Nat.strongRecOn with
 | _ k ih =>
 intro a0 r w h
 cases k with
 | zero => exact absurd h (by simp [dactylref01_Dec.f])
 | succ k =>
 simp only [dactylref01_Dec.f] at h
 have H : (if a0 < 0 then (dactylref01_Dec.j0 k a0 (decide (a0 > (-10)))) else (dactylref01_Dec.j0 k a0 false)) = some r := h
 clear h
 have HC2 := Aside0.mk H
 clear H
 go_enter Try.func46, Try.ntmps46
 go_upto_region 1 with (fail)
 go_cut [8] (fun v8 wc => ∃ (kq : Nat) (x8_1 : Bool), v8 = .bool x8_1 ∧ Aside0 (dactylref01_Dec.j0 kq a0 x8_1 = some r) ∧ Aside0 (kq ≤ k) ∧ Drawn0 w wc)
 case first =>
  have H := HC2.out
  clear HC2
  by_cases c3 : a0 < 0
  ·rw [if_pos c3] at H
   have c3b0 : decide (a0 < 0) = true := decide_eq_true c3
   clear c3
   (first | rw [c3b0] | (simp only [i64_w, i32_w]; rw [c3b0]) | skip)
   have H' := Aside0.mk H
   clear H
   go_wp2
   go_meet
   case rel => exact ⟨_, (decide (a0 > (-10))), (by first | rfl | (simp; done) | (simp [*]; done)), H', ⟨by first | omega | exact Nat.le_refl _⟩, by repeat (first | exact Drawn0.refl _ | apply Drawn0.step)⟩
  ·rw [if_neg c3] at H
   have c3b0 : decide (a0 < 0) = false := decide_eq_false c3
   clear c3
   (first | rw [c3b0] | (simp only [i64_w, i32_w]; rw [c3b0]) | skip)
   have H' := Aside0.mk H
   clear H
   go_wp2
   go_meet
   case rel => exact ⟨_, (false), (by first | rfl | (simp; done) | (simp [*]; done)), H', ⟨by first | omega | exact Nat.le_refl _⟩, by repeat (first | exact Drawn0.refl _ | apply Drawn0.step)⟩
 case rest =>
  clear HC2
  try clear p2
  try clear c3
  try clear c3b0
  obtain ⟨kq, x8_1, rfl, HA, HJ1, ⟨mc1, rfl⟩⟩ := hcut
  cases kq with
  | zero => exact absurd HA.out (by simp [dactylref01_Dec.j0])
  | succ kj1 =>
   have H := HA.out
   clear HA
   simp only [dactylref01_Dec.j0] at H
   by_cases c4 : x8_1 = true
   ·subst c4
    have H1 : ((dactylref01_Digit.f (wrap64 (-a0))).bind fun t250 => (if 1 + t250.size ≤ 9223372036854775807 then (some ((⟨#[45]⟩ : ByteArray) ++ t250)) else (none))) = some r := by rw [if_pos rfl] at H; exact H
    clear H
    have H := H1
    clear H1
    replace H := Option.bind_eq_some_iff.mp H
    obtain ⟨t250, A50, H⟩ := H
    replace H : (if 1 + t250.size ≤ 9223372036854775807 then (some ((⟨#[45]⟩ : ByteArray) ++ t250)) else (none)) = some r := H
    have A5 := Aside0.mk A50
    clear A50
    by_cases c6 : 1 + t250.size ≤ 9223372036854775807
    ·rw [if_pos c6] at H
     have c6b0 := eq_true c6
     have c6b1 : decide (1 + t250.size ≤ 9223372036854775807) = true := decide_eq_true c6
     try have c6b2 : (9223372036854775807 < 1 + t250.size) = False := eq_false (Nat.not_lt.2 c6)
     obtain rfl := Option.some.inj H
     go_wp2_with (first | ((with_reducible refine gate_callee (f := 57) rfl ?_); refine goesL_ (some 11) rfl rfl Try.func57 (by kernel_rfl) rfl #[.int .i64 (wrap64 (-a0))] rfl zl ?_; (with_reducible refine (dactylref01_Digit.calls (wrap64 (-a0)) t250 _ A5.out).mono ?_); rintro e w' ⟨rfl, ⟨nd, rfl⟩⟩; refine ⟨_, rfl, ?_⟩))
     go_ret
     exact ⟨by first | rfl | (simp; done) | (simp [*]; done), by repeat (first | exact Drawn0.refl _ | apply Drawn0.step)⟩
    ·rw [if_neg c6] at H
     exact absurd H (by simp)
   ·replace c4 := Bool.eq_false_iff.mpr c4
    subst c4
    have H1 : (if a0 < 0 then ((dactylref01_Dec.f kj1 (wrap64 (Int.tdiv a0 10))).bind fun t251 => ((dactylref01_Digit.f (wrap64 (-(Int.tmod a0 10)))).bind fun t252 => (if t251.size + t252.size ≤ 9223372036854775807 then (some (t251 ++ t252)) else (none)))) else (if a0 < 10 then ((dactylref01_Digit.f a0).bind fun t253 => (some t253)) else ((dactylref01_Dec.f kj1 (wrap64 (Int.tdiv a0 10))).bind fun t254 => ((dactylref01_Digit.f (Int.tmod a0 10)).bind fun t255 => (if t254.size + t255.size ≤ 9223372036854775807 then (some (t254 ++ t255)) else (none)))))) = some r := by rw [if_neg (show ¬ (false = true) by decide)] at H; exact H
    clear H
    have H := H1
    clear H1
    by_cases c7 : a0 < 0
    ·rw [if_pos c7] at H
     have c7b0 : decide (a0 < 0) = true := decide_eq_true c7
     clear c7
     replace H := Option.bind_eq_some_iff.mp H
     obtain ⟨t251, A80, H⟩ := H
     replace H : ((dactylref01_Digit.f (wrap64 (-(Int.tmod a0 10)))).bind fun t252 => (if t251.size + t252.size ≤ 9223372036854775807 then (some (t251 ++ t252)) else (none))) = some r := H
     have A8 := Aside0.mk A80
     clear A80
     replace H := Option.bind_eq_some_iff.mp H
     obtain ⟨t252, A90, H⟩ := H
     replace H : (if t251.size + t252.size ≤ 9223372036854775807 then (some (t251 ++ t252)) else (none)) = some r := H
     have A9 := Aside0.mk A90
     clear A90
     by_cases c10 : t251.size + t252.size ≤ 9223372036854775807
     ·rw [if_pos c10] at H
      have c10b0 := eq_true c10
      have c10b1 : decide (t251.size + t252.size ≤ 9223372036854775807) = true := decide_eq_true c10
      try have c10b2 : (9223372036854775807 < t251.size + t252.size) = False := eq_false (Nat.not_lt.2 c10)
      obtain rfl := Option.some.inj H
      go_wp2_with (first | ((with_reducible refine gate_callee (f := 46) rfl ?_); refine goesL_ (some 17) rfl rfl Try.func46 (by kernel_rfl) rfl #[.int .i64 (wrap64 (Int.tdiv a0 10))] rfl zl ?_; (with_reducible refine (ih kj1 (by have := HJ1.out; omega) (wrap64 (Int.tdiv a0 10)) t251 _ A8.out).mono ?_); rintro e w' ⟨rfl, ⟨nd, rfl⟩⟩; refine ⟨_, rfl, ?_⟩) | ((with_reducible refine gate_callee (f := 57) rfl ?_); refine goesL_ (some 21) rfl rfl Try.func57 (by kernel_rfl) rfl #[.int .i64 (wrap64 (-(Int.tmod a0 10)))] rfl zl ?_; (with_reducible refine (dactylref01_Digit.calls (wrap64 (-(Int.tmod a0 10))) t252 _ A9.out).mono ?_); rintro e w' ⟨rfl, ⟨nd, rfl⟩⟩; refine ⟨_, rfl, ?_⟩))
      go_ret
      exact ⟨by first | rfl | (simp; done) | (simp [*]; done), by repeat (first | exact Drawn0.refl _ | apply Drawn0.step)⟩
     ·rw [if_neg c10] at H
      exact absurd H (by simp)
    ·rw [if_neg c7] at H
     have c7b0 : decide (a0 < 0) = false := decide_eq_false c7
     clear c7
     by_cases c11 : a0 < 10
     ·rw [if_pos c11] at H
      have c11b0 : decide (a0 < 10) = true := decide_eq_true c11
      clear c11
      replace H := Option.bind_eq_some_iff.mp H
      obtain ⟨t253, A120, H⟩ := H
      replace H : (some t253) = some r := H
      have A12 := Aside0.mk A120
      clear A120
      obtain rfl := Option.some.inj H
      go_wp2_with (first | ((with_reducible refine gate_callee (f := 57) rfl ?_); refine goesL_ (some 26) rfl rfl Try.func57 (by kernel_rfl) rfl #[.int .i64 a0] rfl zl ?_; (with_reducible refine (dactylref01_Digit.calls a0 t253 _ A12.out).mono ?_); rintro e w' ⟨rfl, ⟨nd, rfl⟩⟩; refine ⟨_, rfl, ?_⟩))
      go_ret
      exact ⟨by first | rfl | (simp; done) | (simp [*]; done), by repeat (first | exact Drawn0.refl _ | apply Drawn0.step)⟩
     ·rw [if_neg c11] at H
      have c11b0 : decide (a0 < 10) = false := decide_eq_false c11
      clear c11
      replace H := Option.bind_eq_some_iff.mp H
      obtain ⟨t254, A130, H⟩ := H
      replace H : ((dactylref01_Digit.f (Int.tmod a0 10)).bind fun t255 => (if t254.size + t255.size ≤ 9223372036854775807 then (some (t254 ++ t255)) else (none))) = some r := H
      have A13 := Aside0.mk A130
      clear A130
      replace H := Option.bind_eq_some_iff.mp H
      obtain ⟨t255, A140, H⟩ := H
      replace H : (if t254.size + t255.size ≤ 9223372036854775807 then (some (t254 ++ t255)) else (none)) = some r := H
      have A14 := Aside0.mk A140
      clear A140
      by_cases c15 : t254.size + t255.size ≤ 9223372036854775807
      ·rw [if_pos c15] at H
       have c15b0 := eq_true c15
       have c15b1 : decide (t254.size + t255.size ≤ 9223372036854775807) = true := decide_eq_true c15
       try have c15b2 : (9223372036854775807 < t254.size + t255.size) = False := eq_false (Nat.not_lt.2 c15)
       obtain rfl := Option.some.inj H
       go_wp2_with (first | ((with_reducible refine gate_callee (f := 46) rfl ?_); refine goesL_ (some 29) rfl rfl Try.func46 (by kernel_rfl) rfl #[.int .i64 (wrap64 (Int.tdiv a0 10))] rfl zl ?_; (with_reducible refine (ih kj1 (by have := HJ1.out; omega) (wrap64 (Int.tdiv a0 10)) t254 _ A13.out).mono ?_); rintro e w' ⟨rfl, ⟨nd, rfl⟩⟩; refine ⟨_, rfl, ?_⟩) | ((with_reducible refine gate_callee (f := 57) rfl ?_); refine goesL_ (some 32) rfl rfl Try.func57 (by kernel_rfl) rfl #[.int .i64 (Int.tmod a0 10)] rfl zl ?_; (with_reducible refine (dactylref01_Digit.calls (Int.tmod a0 10) t255 _ A14.out).mono ?_); rintro e w' ⟨rfl, ⟨nd, rfl⟩⟩; refine ⟨_, rfl, ?_⟩))
       go_ret
       exact ⟨by first | rfl | (simp; done) | (simp [*]; done), by repeat (first | exact Drawn0.refl _ | apply Drawn0.step)⟩
      ·rw [if_neg c15] at H
       exact absurd H (by simp)

/-! ### dactylref10_Looks: function 47 -/
def dactylref10_Looks.f (a0 : Int) : Option (ByteArray) := (some (([(⟨#[48, 109]⟩ : ByteArray), (⟨#[48, 59, 55, 109]⟩ : ByteArray), (⟨#[48, 59, 52, 109]⟩ : ByteArray), (⟨#[48, 59, 55, 59, 52, 109]⟩ : ByteArray), (⟨#[48, 59, 49, 109]⟩ : ByteArray), (⟨#[48, 59, 55, 59, 49, 109]⟩ : ByteArray), (⟨#[48, 59, 52, 59, 49, 109]⟩ : ByteArray), (⟨#[48, 59, 55, 59, 52, 59, 49, 109]⟩ : ByteArray)] : List ByteArray) : List ByteArray)).bind fun y256 => (if 0 ≤ a0 then (if a0 < (y256.length : Int) then (some (rdOf ByteArray.empty y256 a0)) else (none)) else (none))
set_option maxHeartbeats 8000000 in
set_option maxRecDepth 100000 in
theorem dactylref10_Looks.calls (a0 : Int) (r : ByteArray) (w : World) (h : dactylref10_Looks.f a0 = some r) :
  Calls Try.prog 47 #[.int .i64 a0] w fun e w' => e = .returned (.string r) ∧ Below w.heap.size w w' := by
 have HB := Aside0.mk (Below.refl w.heap.size w)
 have H : ((some (([(⟨#[48, 109]⟩ : ByteArray), (⟨#[48, 59, 55, 109]⟩ : ByteArray), (⟨#[48, 59, 52, 109]⟩ : ByteArray), (⟨#[48, 59, 55, 59, 52, 109]⟩ : ByteArray), (⟨#[48, 59, 49, 109]⟩ : ByteArray), (⟨#[48, 59, 55, 59, 49, 109]⟩ : ByteArray), (⟨#[48, 59, 52, 59, 49, 109]⟩ : ByteArray), (⟨#[48, 59, 55, 59, 52, 59, 49, 109]⟩ : ByteArray)] : List ByteArray) : List ByteArray)).bind fun y256 => (if 0 ≤ a0 then (if a0 < (y256.length : Int) then (some (rdOf ByteArray.empty y256 a0)) else (none)) else (none))) = some r := h
 clear h
 obtain ⟨y256, hy256⟩ : ∃ y_ : List ByteArray, y_ = (([(⟨#[48, 109]⟩ : ByteArray), (⟨#[48, 59, 55, 109]⟩ : ByteArray), (⟨#[48, 59, 52, 109]⟩ : ByteArray), (⟨#[48, 59, 55, 59, 52, 109]⟩ : ByteArray), (⟨#[48, 59, 49, 109]⟩ : ByteArray), (⟨#[48, 59, 55, 59, 49, 109]⟩ : ByteArray), (⟨#[48, 59, 52, 59, 49, 109]⟩ : ByteArray), (⟨#[48, 59, 55, 59, 52, 59, 49, 109]⟩ : ByteArray)] : List ByteArray)) := ⟨_, rfl⟩
 replace H : (if 0 ≤ a0 then (if a0 < (y256.length : Int) then (some (rdOf ByteArray.empty y256 a0)) else (none)) else (none)) = some r := by first | (rw [hy256]; with_reducible exact H) | (have H2_ := (Option.bind_some _ _).symm.trans H; rw [hy256]; with_reducible exact H2_) | (have H2_ := (Option.bind_some _ _).symm.trans H; with_reducible exact H2_) | with_reducible exact H | (rw [hy256]; exact H) | exact H
 have Ny256 := Aside0.mk hy256
 clear hy256
 by_cases c2 : 0 ≤ a0
 ·rw [if_pos c2] at H
  have c2b0 : decide (0 ≤ a0) = true := decide_eq_true c2
  clear c2
  by_cases c3 : a0 < (y256.length : Int)
  ·rw [if_pos c3] at H
   have c3b0 : decide (a0 < (y256.length : Int)) = true := decide_eq_true c3
   clear c3
   obtain rfl := Option.some.inj H
   go_enter Try.func47, Try.ntmps47
   go_wp2_with (first | ((with_reducible refine gate_dst (N := 4) rfl ?_); refine Kd.R_lit Kd.string _ 9 ?hg (N := 4) ?hd (xs := ([(⟨#[48, 109]⟩ : ByteArray), (⟨#[48, 59, 55, 109]⟩ : ByteArray), (⟨#[48, 59, 52, 109]⟩ : ByteArray), (⟨#[48, 59, 55, 59, 52, 109]⟩ : ByteArray), (⟨#[48, 59, 49, 109]⟩ : ByteArray), (⟨#[48, 59, 55, 59, 49, 109]⟩ : ByteArray), (⟨#[48, 59, 52, 59, 49, 109]⟩ : ByteArray), (⟨#[48, 59, 55, 59, 52, 59, 49, 109]⟩ : ByteArray)] : List ByteArray)) (inner := [.string (⟨#[48, 109]⟩ : ByteArray), .string (⟨#[48, 59, 55, 109]⟩ : ByteArray), .string (⟨#[48, 59, 52, 109]⟩ : ByteArray), .string (⟨#[48, 59, 55, 59, 52, 109]⟩ : ByteArray), .string (⟨#[48, 59, 49, 109]⟩ : ByteArray), .string (⟨#[48, 59, 55, 59, 49, 109]⟩ : ByteArray), .string (⟨#[48, 59, 52, 59, 49, 109]⟩ : ByteArray), .string (⟨#[48, 59, 55, 59, 52, 59, 49, 109]⟩ : ByteArray)]) (ok := fun _ => True) (okp := fun _ => True) ?hr ?hp (fun _ hk => hk) trivial (Below.refl _ _) (Nat.le_refl _) (by simp) ?_; (case hd => rfl); (case hg => rfl); (case hr => first | (go_simp; done) | (go_simp; rfl)); (case hp => exact (Reps.one (show Kd.M Kd.string _ _ _ (⟨#[48, 109]⟩ : ByteArray) [.string (⟨#[48, 109]⟩ : ByteArray)] from rfl) (Reps.one (show Kd.M Kd.string _ _ _ (⟨#[48, 59, 55, 109]⟩ : ByteArray) [.string (⟨#[48, 59, 55, 109]⟩ : ByteArray)] from rfl) (Reps.one (show Kd.M Kd.string _ _ _ (⟨#[48, 59, 52, 109]⟩ : ByteArray) [.string (⟨#[48, 59, 52, 109]⟩ : ByteArray)] from rfl) (Reps.one (show Kd.M Kd.string _ _ _ (⟨#[48, 59, 55, 59, 52, 109]⟩ : ByteArray) [.string (⟨#[48, 59, 55, 59, 52, 109]⟩ : ByteArray)] from rfl) (Reps.one (show Kd.M Kd.string _ _ _ (⟨#[48, 59, 49, 109]⟩ : ByteArray) [.string (⟨#[48, 59, 49, 109]⟩ : ByteArray)] from rfl) (Reps.one (show Kd.M Kd.string _ _ _ (⟨#[48, 59, 55, 59, 49, 109]⟩ : ByteArray) [.string (⟨#[48, 59, 55, 59, 49, 109]⟩ : ByteArray)] from rfl) (Reps.one (show Kd.M Kd.string _ _ _ (⟨#[48, 59, 52, 59, 49, 109]⟩ : ByteArray) [.string (⟨#[48, 59, 52, 59, 49, 109]⟩ : ByteArray)] from rfl) (Reps.one (show Kd.M Kd.string _ _ _ (⟨#[48, 59, 55, 59, 52, 59, 49, 109]⟩ : ByteArray) [.string (⟨#[48, 59, 55, 59, 52, 59, 49, 109]⟩ : ByteArray)] from rfl) (Reps.none _ _)))))))))); intro v257 w4 ho5 hb hg_ hnew_; clear hg_ hnew_; (first | rw [← Ny256.out] at ho5 | (simp only [Int.reduceToNat] at ho5; rw [← Ny256.out] at ho5)); have n0_ := Aside0.mk (Kd.R_lower ho5 (below_size zb)); have n1_ := Aside0.mk (below_step zb hb); clear HB; have HO258 := n0_; have HB := n1_; clear n0_ n1_; clear hb ho5; obtain ⟨Ao6, co6, eo6⟩ := Kd.R_slice HO258.out; subst eo6; have p259 : 0 ≤ (a0 : Int) := of_decide_eq_true za; have q259 : a0 < (y256.length : Int) := of_decide_eq_true za; obtain ⟨ad259, e259, hx259_0⟩ := Kd.at_string (Kd.R_reads' HO258.out).2.2 a0 p259 q259; cases e259; replace p259 := eq_true p259; replace q259 := eq_true q259))
   go_ret
   exact ⟨zr, zb⟩
  ·rw [if_neg c3] at H
   exact absurd H (by simp)
 ·rw [if_neg c2] at H
  exact absurd H (by simp)

end Go.Proofs.Ytddkmhkglmcihaa.PAll
