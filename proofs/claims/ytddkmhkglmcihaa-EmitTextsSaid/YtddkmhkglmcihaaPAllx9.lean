-- Printed for this claim by the session's own program (wip/tool/hprint.py) over the kit's print; some functions' texts are the session's own.
import Derived.Test.YtddkmhkglmcihaaPAllx0
import Derived.Test.YtddkmhkglmcihaaPAllx1
import Derived.Test.YtddkmhkglmcihaaPAllx4
import Derived.Test.YtddkmhkglmcihaaPAllx5
import Derived.Test.YtddkmhkglmcihaaPAllx6
import Derived.Test.YtddkmhkglmcihaaPAllx8
namespace Go.Proofs.Ytddkmhkglmcihaa.PAll
open Go.RowKit Go.Proofs.YtddkmhkglmcihaaW.PrintWords Go.Proofs.YtddkmhkglmcihaaW.PrintLast Go.Proofs.YtddkmhkglmcihaaW.PrintMore
attribute [local go_sem] max2_int min2_int max_two min_two max_three min_three max_four min_four   -- for this text's walks alone
set_option linter.unusedVariables false
set_option linter.unusedSimpArgs false

attribute [local go_sem high] eqA31
/-! ### dactyllaw10_awake: function 8 -/
def law10_awake.l : List S31 := [(⟨1, 2, 3, (⟨#[]⟩ : ByteArray)⟩ : S31), (⟨0, 0, 0, (⟨#[97]⟩ : ByteArray)⟩ : S31), (⟨4, 5, 0, (⟨#[]⟩ : ByteArray)⟩ : S31), (⟨5, 1, 0, (⟨#[]⟩ : ByteArray)⟩ : S31)]
def law10_awake.s : ByteArray := ⟨#[27, 91, 50, 59, 51, 72, 97, 27, 91, 48, 59, 55, 59, 49, 109, 27, 91, 63, 50, 48, 48, 52, 104]⟩
def law10_awake.k : List S31 := [(⟨1, 2, 3, (⟨#[]⟩ : ByteArray)⟩ : S31), (⟨0, 1, 0, (⟨#[]⟩ : ByteArray)⟩ : S31), (⟨4, 5, 0, (⟨#[]⟩ : ByteArray)⟩ : S31), (⟨5, 1, 0, (⟨#[]⟩ : ByteArray)⟩ : S31)]
theorem law10_awake.f1 : emit_Text.f 60 law10_awake.l = some (law10_awake.s, 0) := by kernel_rfl
theorem law10_awake.f2 : emit_Parse.f 60 law10_awake.s = some (law10_awake.l, 0) := by kernel_rfl
theorem law10_awake.f3 : emit_Skeleton.f 60 law10_awake.l = some law10_awake.k := by kernel_rfl
theorem law10_awake.f4 : emit_Clean.f 60 (⟨#[97, 13, 10, 7]⟩ : ByteArray) = some true := by kernel_rfl
theorem law10_awake.f5 : emit_Clean.f 60 (⟨#[27, 91, 51, 109]⟩ : ByteArray) = some false := by kernel_rfl
theorem law10_awake.f6 : emit_Check.f 0 0 0 (⟨#[]⟩ : ByteArray) = some 2 := by kernel_rfl
theorem law10_awake.f7 : emit_Same.f 60 law10_awake.l law10_awake.l = some true := by kernel_rfl
def dactyllaw10_awake.f : Option Bool := some true
attribute [local go_sem high] eqA31
set_option maxHeartbeats 8000000 in
set_option maxRecDepth 100000 in
theorem dactyllaw10_awake.calls (r : Bool) (w : World) (h : dactyllaw10_awake.f = some r) :
  Calls Try.prog 8 #[] w fun e w' => e = .returned (.bool r) ∧ Below w.heap.size w w' := by
 obtain rfl := Option.some.inj h
 clear h
 have H1 := Aside0.mk (fun A c W => emit_Text.calls 60 A c law10_awake.l law10_awake.s 0 W)
 have H2 := Aside0.mk (fun W => emit_Parse.calls 60 law10_awake.s law10_awake.l 0 W law10_awake.f2)
 have H3 := Aside0.mk (fun A c W => emit_Skeleton.calls 60 A c law10_awake.l law10_awake.k W)
 have H4 := Aside0.mk (fun W => emit_Clean.calls 60 _ true W law10_awake.f4)
 have H5 := Aside0.mk (fun W => emit_Clean.calls 60 _ false W law10_awake.f5)
 have H6 := Aside0.mk (fun W => emit_Check.calls 0 0 0 _ 2 W law10_awake.f6)
 have H7 := Aside0.mk (fun A c A' c' W => emit_Same.calls 60 A c law10_awake.l A' c' law10_awake.l true W)
 have hu := Try.underlying31
 have hr := Aside0.mk (C_lit k31 w 31 law10_awake.l [.int .i64 1, .int .i64 2, .int .i64 3, .string (⟨#[]⟩ : ByteArray), .int .i64 0, .int .i64 0, .int .i64 0, .string (⟨#[97]⟩ : ByteArray), .int .i64 4, .int .i64 5, .int .i64 0, .string (⟨#[]⟩ : ByteArray), .int .i64 5, .int .i64 1, .int .i64 0, .string (⟨#[]⟩ : ByteArray)] (Reps.snoc (cs := [_, _, _, _, _, _, _, _, _, _, _, _]) (c := [_, _, _, _]) (Reps.snoc (cs := [_, _, _, _, _, _, _, _]) (c := [_, _, _, _]) (Reps.snoc (cs := [_, _, _, _]) (c := [_, _, _, _]) (Reps.snoc (cs := []) (c := [_, _, _, _]) (Reps.none _ _) (k31_mk _ ⟨1, 2, 3, (⟨#[]⟩ : ByteArray)⟩) rfl) (k31_mk _ ⟨0, 0, 0, (⟨#[97]⟩ : ByteArray)⟩) rfl) (k31_mk _ ⟨4, 5, 0, (⟨#[]⟩ : ByteArray)⟩) rfl) (k31_mk _ ⟨5, 1, 0, (⟨#[]⟩ : ByteArray)⟩) rfl) (by decide))
 go_enter Try.func8, Try.ntmps8
 go_wp2_with fail
 refine (H1.out _ _ _ hr.out (Nat.le_refl _) law10_awake.f1).mono ?_
 rintro e w1 ⟨rfl, hb1⟩
 have B1 : Aside0 (Below w.heap.size w w1) := ⟨((Below.refl _ w).alloc (Nat.le_refl _) _).trans (hb1.mono (by simp))⟩
 clear hr hb1 H1
 go_wp2_with fail
 refine (H2.out _).mono ?_
 rintro e w2 ⟨v2, rfl, hR2, hb2⟩
 obtain ⟨A2, c2, rfl, hc2, hC2⟩ := Kd.R_reads hR2
 have B2 : Aside0 (Below w.heap.size w w2) := ⟨below_then B1.out B1.out.size hb2⟩
 have C2 := Aside0.mk hC2
 have D2 := Aside0.mk hc2
 clear hR2 hb2 hC2 hc2 B1 H2
 go_wp2_with fail
 refine (H3.out _ _ _ C2.out D2.out law10_awake.f3).mono ?_
 rintro e w3 ⟨v3, rfl, hR3, hb3⟩
 obtain ⟨A3, c3, rfl, hc3, hC3⟩ := Kd.R_reads hR3
 have B3 : Aside0 (Below w.heap.size w w3) := ⟨below_then B2.out B2.out.size hb3⟩
 have C3 := Aside0.mk (Kd.C_below C2.out hb3)
 have E3 := Aside0.mk hC3
 obtain ⟨ad, e0, hx0, hx1, hx2, hx3⟩ := at_T31 C3.out 2 (by decide) (by decide)
 subst e0
 have hy1 : w3.cell? ⟨ad.block, ad.off + 8 + 1, none⟩ = some (.int .i64 5) := by simpa [Addr.add, rd_T31, law10_awake.l] using hx1
 have S3 := Aside0.mk (Below.refl w3.heap.size w3)
 clear hR3 hb3 hC3 hc3 B2 C2 H3 hx0 hx1 hx2 hx3
 simp only [law10_awake.s, law10_awake.k, List.length_cons, List.length_nil, show law10_awake.l.length = 4 from rfl] at *
 go_wp2_with fail
 refine (H4.out _).mono ?_
 rintro e w4 ⟨rfl, hb4⟩
 have S4 : Aside0 (Below w3.heap.size w3 w4) := ⟨hb4⟩
 clear H4 hb4 hy1
 go_wp2_with fail
 refine (H5.out _).mono ?_
 rintro e w5 ⟨rfl, hb5⟩
 have S5 : Aside0 (Below w3.heap.size w3 w5) := ⟨below_then S4.out S4.out.size hb5⟩
 have E5 := Aside0.mk (Kd.C_below E3.out S5.out)
 obtain ⟨ad3, e0, hx0, hx1, hx2, hx3⟩ := at_T31 E5.out 1 (by decide) (by decide)
 subst e0
 have hy0 : w5.cell? ⟨ad3.block, ad3.off + 4, none⟩ = some (.int .i64 0) := by simpa [Addr.add, rd_T31] using hx0
 have hy1 : w5.cell? ⟨ad3.block, ad3.off + 4 + 1, none⟩ = some (.int .i64 1) := by simpa [Addr.add, rd_T31] using hx1
 have hy2 : w5.cell? ⟨ad3.block, ad3.off + 4 + 2, none⟩ = some (.int .i64 0) := by simpa [Addr.add, rd_T31] using hx2
 have hy3 : w5.cell? ⟨ad3.block, ad3.off + 4 + 3, none⟩ = some (.string ⟨#[]⟩) := by simpa [Addr.add, rd_T31] using hx3
 clear H5 hb5 hx0 hx1 hx2 hx3
 go_wp2_with fail
 refine (H6.out _).mono ?_
 rintro e w6 ⟨rfl, hb6⟩
 have S6 : Aside0 (Below w3.heap.size w3 w6) := ⟨below_then S5.out S5.out.size hb6⟩
 have C6 := Aside0.mk (Kd.C_below C3.out S6.out)
 clear H6 hb6 hy0 hy1 hy2 hy3
 go_wp2_with fail
 refine (H7.out _ _ _ _ _ C6.out D2.out C6.out D2.out law10_awake.f7).mono ?_
 rintro e w7 ⟨rfl, hb7⟩
 clear H7
 go_wp2_with fail
 go_ret
 exact ⟨rfl, by first | exact below_then B3.out B3.out.size (below_then S6.out S6.out.size hb7) | exact below_then B3.out B3.out.size (below_then S6.out S6.out.size hb7.below)⟩

/-! ### dactylref10_Same: function 11 -/
def dactylref10_Same.l0 : Nat → List (S31) → List (S31) → Int → Option (Bool)
 | 0, _, _, _ => none
 | k + 1, x0, x1, x5 => if x5 < (x0.length : Int) then (if 0 ≤ x5 then (if x5 < (x1.length : Int) then (if (!(((rd_T31 x0 x5).f0) == ((rd_T31 x1 x5).f0)) || (!(((rd_T31 x0 x5).f1) == ((rd_T31 x1 x5).f1)) || (!(((rd_T31 x0 x5).f2) == ((rd_T31 x1 x5).f2)) || (!((((rd_T31 x0 x5).f3).toList) == (((rd_T31 x1 x5).f3).toList)))))) = true then (some false) else (dactylref10_Same.l0 k x0 x1 (wrap64 (x5 + 1)))) else (none)) else (none)) else (some true)
def dactylref10_Same.f (k : Nat) (l0 : List (S31)) (l1 : List (S31)) : Option (Bool) := if (l0.length : Int) = (l1.length : Int) then (dactylref10_Same.l0 k l0 l1 0) else (some false)
theorem dactylref10_Same.mono_l : ∀ k, (∀ y0 y1 y2, LeO (dactylref10_Same.l0 k y0 y1 y2) (dactylref10_Same.l0 (k + 1) y0 y1 y2))
 | 0 => fun _ _ _ r h => by simp [dactylref10_Same.l0] at h
 | k + 1 => by
  have ih0 := dactylref10_Same.mono_l k
  ·intro y0 y1 y2
   unfold dactylref10_Same.l0
   repeat' first
   | (with_reducible exact ih0 _ _ _)
   | (with_reducible exact LeO.refl _)
   | (with_reducible exact LeO.none _)
   | (with_reducible refine LeO.ite ?_ ?_)
   | (with_reducible refine LeO.bind ?_ (fun _ => ?_))
   | exact ih0 _ _ _
   | exact LeO.none _
   | refine LeO.ite ?_ ?_
   | refine LeO.bind ?_ (fun _ => ?_)
theorem dactylref10_Same.mono : ∀ a0 a1 k, LeO (dactylref10_Same.f k a0 a1) (dactylref10_Same.f (k + 1) a0 a1) := by
 intro a0 a1 k
 have ih0 := dactylref10_Same.mono_l k
 unfold dactylref10_Same.f
 repeat' first
   | (with_reducible exact ih0 _ _ _)
   | (with_reducible exact LeO.refl _)
   | (with_reducible exact LeO.none _)
   | (with_reducible refine LeO.ite ?_ ?_)
   | (with_reducible refine LeO.bind ?_ (fun _ => ?_))
   | exact ih0 _ _ _
   | exact LeO.none _
   | refine LeO.ite ?_ ?_
   | refine LeO.bind ?_ (fun _ => ?_)
set_option maxHeartbeats 8000000 in
set_option maxRecDepth 100000 in
theorem dactylref10_Same.calls (k : Nat) (A0 : Option Addr) (c0 : Nat) (l0 : List (S31)) (A1 : Option Addr) (c1 : Nat) (l1 : List (S31)) (r : Bool) (w : World) (hr0 : Kd.C k31 w A0 l0.length l0) (hc0 : l0.length ≤ c0) (hr1 : Kd.C k31 w A1 l1.length l1) (hc1 : l1.length ≤ c1) (h : dactylref10_Same.f k l0 l1 = some r) :
  Calls Try.prog 11 #[.slice A0 l0.length c0, .slice A1 l1.length c1] w fun e w' => e = .returned (.bool r) ∧ Drawn0 w w' := by
 have hu31 := Try.underlying31
 have HR0 := Aside0.mk hr0
 have HC0 := Aside0.mk hc0
 clear hr0 hc0
 have HR1 := Aside0.mk hr1
 have HC1 := Aside0.mk hc1
 clear hr1 hc1
 have H : (if (l0.length : Int) = (l1.length : Int) then (dactylref10_Same.l0 k l0 l1 0) else (some false)) = some r := h
 clear h
 by_cases c3 : (l0.length : Int) = (l1.length : Int)
 ·rw [if_pos c3] at H
  have c3b0 : ((l0.length : Int) == (l1.length : Int)) = true := beq_iff_eq.mpr c3
  have c3b1 : ((l0.length : Int) != (l1.length : Int)) = false := bne_eq_false_iff_eq.mpr c3
  have c3b2 : (l0.length == l1.length) = true := by first | simpa using c3 | (simp at c3 ⊢; omega)
  clear c3
  have H' := Aside0.mk H
  clear H
  go_enter Try.func11, Try.ntmps11
  go_wp2
  repeat (go_quiet (fail); try go_wp2)
  go_loopg [5] k (fun kq v5 w' => ∃ (x5_1 : Int), v5 = .int .i64 x5_1 ∧ Aside0 (dactylref10_Same.l0 kq l0 l1 x5_1 = some r) ∧ Aside0 (kq ≤ k) ∧ Drawn0 w w')
  case atStart => exact ⟨(0), (by first | rfl | (simp; done) | (simp [*]; done)), H', ⟨Nat.le_refl _⟩, by repeat (first | exact Drawn0.refl _ | apply Drawn0.step)⟩
  case round =>
   clear H'
   try clear c1
   try clear p2
   try clear c3
   try clear c3b0
   try clear c3b1
   try clear c3b2
   obtain ⟨x5_1, rfl, HA, HK1, ⟨m1, rfl⟩⟩ := hrel
   cases gk with
   | zero => exact absurd HA.out (by simp [dactylref10_Same.l0])
   | succ k1 =>
    have H := HA.out
    clear HA
    simp only [dactylref10_Same.l0] at H
    by_cases c4 : x5_1 < (l0.length : Int)
    ·rw [if_pos c4] at H
     have c4b0 : decide (x5_1 < (l0.length : Int)) = true := decide_eq_true c4
     clear c4
     by_cases c5 : 0 ≤ x5_1
     ·rw [if_pos c5] at H
      have c5b0 : decide (0 ≤ x5_1) = true := decide_eq_true c5
      clear c5
      by_cases c6 : x5_1 < (l1.length : Int)
      ·rw [if_pos c6] at H
       have c6b0 : decide (x5_1 < (l1.length : Int)) = true := decide_eq_true c6
       clear c6
       by_cases c7 : (!(((rd_T31 l0 x5_1).f0) == ((rd_T31 l1 x5_1).f0)) || (!(((rd_T31 l0 x5_1).f1) == ((rd_T31 l1 x5_1).f1)) || (!(((rd_T31 l0 x5_1).f2) == ((rd_T31 l1 x5_1).f2)) || (!((((rd_T31 l0 x5_1).f3).toList) == (((rd_T31 l1 x5_1).f3).toList)))))) = true
       ·rw [if_pos c7] at H
        have c7b0 : (!(((rd_T31 l0 x5_1).f0) == ((rd_T31 l1 x5_1).f0)) || (!(((rd_T31 l0 x5_1).f1) == ((rd_T31 l1 x5_1).f1)) || (!(((rd_T31 l0 x5_1).f2) == ((rd_T31 l1 x5_1).f2)) || (!((((rd_T31 l0 x5_1).f3).toList) == (((rd_T31 l1 x5_1).f3).toList)))))) = true := c7
        clear c7
        obtain rfl := Option.some.inj H
        have p194 : 0 ≤ (x5_1 : Int) := of_decide_eq_true za
        have q194 : x5_1 < (l0.length : Int) := of_decide_eq_true za
        obtain ⟨ad194, e194, hx194_0, hx194_1, hx194_2, hx194_3⟩ := at_T31 HR0.out x5_1 p194 q194
        cases e194
        replace p194 := eq_true p194
        replace q194 := eq_true q194
        have p195 : 0 ≤ (x5_1 : Int) := of_decide_eq_true za
        have q195 : x5_1 < (l1.length : Int) := of_decide_eq_true za
        obtain ⟨ad195, e195, hx195_0, hx195_1, hx195_2, hx195_3⟩ := at_T31 HR1.out x5_1 p195 q195
        cases e195
        replace p195 := eq_true p195
        replace q195 := eq_true q195
        go_wp2
        repeat (go_quiet (fail); try go_wp2)
        go_ret
        exact ⟨by first | rfl | (simp; done) | (simp [*]; done), by repeat (first | exact Drawn0.refl _ | apply Drawn0.step)⟩
       ·rw [if_neg c7] at H
        have c7b0 : (!(((rd_T31 l0 x5_1).f0) == ((rd_T31 l1 x5_1).f0)) || (!(((rd_T31 l0 x5_1).f1) == ((rd_T31 l1 x5_1).f1)) || (!(((rd_T31 l0 x5_1).f2) == ((rd_T31 l1 x5_1).f2)) || (!((((rd_T31 l0 x5_1).f3).toList) == (((rd_T31 l1 x5_1).f3).toList)))))) = false := by simpa using c7
        clear c7
        have H' := Aside0.mk H
        clear H
        have p194 : 0 ≤ (x5_1 : Int) := of_decide_eq_true za
        have q194 : x5_1 < (l0.length : Int) := of_decide_eq_true za
        obtain ⟨ad194, e194, hx194_0, hx194_1, hx194_2, hx194_3⟩ := at_T31 HR0.out x5_1 p194 q194
        cases e194
        replace p194 := eq_true p194
        replace q194 := eq_true q194
        have p195 : 0 ≤ (x5_1 : Int) := of_decide_eq_true za
        have q195 : x5_1 < (l1.length : Int) := of_decide_eq_true za
        obtain ⟨ad195, e195, hx195_0, hx195_1, hx195_2, hx195_3⟩ := at_T31 HR1.out x5_1 p195 q195
        cases e195
        replace p195 := eq_true p195
        replace q195 := eq_true q195
        go_wp2
        repeat (go_quiet (fail); try go_wp2)
        go_roundg k1
        case measure => have := HK1.out; omega
        case rel => exact ⟨(wrap64 (x5_1 + 1)), (by first | rfl | (simp; done) | (simp [*]; done)), H', ⟨by have := HK1.out; omega⟩, by repeat (first | exact Drawn0.refl _ | apply Drawn0.step)⟩
      ·rw [if_neg c6] at H
       exact absurd H (by simp)
     ·rw [if_neg c5] at H
      exact absurd H (by simp)
    ·rw [if_neg c4] at H
     have c4b0 : decide (x5_1 < (l0.length : Int)) = false := decide_eq_false c4
     clear c4
     obtain rfl := Option.some.inj H
     go_wp2
     repeat (go_quiet (fail); try go_wp2)
     go_ret
     exact ⟨by first | rfl | (simp; done) | (simp [*]; done), by repeat (first | exact Drawn0.refl _ | apply Drawn0.step)⟩
 ·rw [if_neg c3] at H
  have c3b0 : ((l0.length : Int) == (l1.length : Int)) = false := beq_eq_false_iff_ne.mpr c3
  have c3b1 : ((l0.length : Int) != (l1.length : Int)) = true := bne_iff_ne.mpr c3
  have c3b2 : (l0.length == l1.length) = false := by first | simpa using c3 | (simp at c3 ⊢; omega)
  obtain rfl := Option.some.inj H
  go_enter Try.func11, Try.ntmps11
  go_wp2
  repeat (go_quiet (fail); try go_wp2)
  go_ret
  exact ⟨by first | rfl | (simp; done) | (simp [*]; done), by repeat (first | exact Drawn0.refl _ | apply Drawn0.step)⟩

/-! ### dactylref02_Size: function 51 -/
mutual
def dactylref02_Size.j0 : Nat → Int → Bool → Option (Int)
 | 0, _, _ => none
 | k + 1, x0, x10 => if x10 = true then (some 2) else (if x0 ≥ 224 then (dactylref02_Size.j1 k x0 (decide (x0 ≤ 239))) else (dactylref02_Size.j1 k x0 false))
def dactylref02_Size.j1 : Nat → Int → Bool → Option (Int)
 | 0, _, _ => none
 | k + 1, x0, x16 => if x16 = true then (some 3) else (if x0 ≥ 240 then (if x0 ≤ 244 then (some 4) else (some 0)) else (some 0))
end
def dactylref02_Size.f (k : Nat) (a0 : Int) : Option (Int) := if a0 < 128 then (some 1) else (if a0 ≥ 194 then (dactylref02_Size.j0 k a0 (decide (a0 ≤ 223))) else (dactylref02_Size.j0 k a0 false))
theorem dactylref02_Size.mono_l : ∀ k, (∀ y0 y1, LeO (dactylref02_Size.j0 k y0 y1) (dactylref02_Size.j0 (k + 1) y0 y1)) ∧ (∀ y0 y1, LeO (dactylref02_Size.j1 k y0 y1) (dactylref02_Size.j1 (k + 1) y0 y1))
 | 0 => ⟨fun _ _ r h => by simp [dactylref02_Size.j0] at h, fun _ _ r h => by simp [dactylref02_Size.j1] at h⟩
 | k + 1 => by
  obtain ⟨ih0, ih1⟩ := dactylref02_Size.mono_l k
  refine ⟨?_, ?_⟩
  ·intro y0 y1
   unfold dactylref02_Size.j0
   repeat' first
   | (with_reducible exact ih0 _ _)
   | (with_reducible exact ih1 _ _)
   | (with_reducible exact LeO.refl _)
   | (with_reducible exact LeO.none _)
   | (with_reducible refine LeO.ite ?_ ?_)
   | (with_reducible refine LeO.bind ?_ (fun _ => ?_))
   | exact ih0 _ _
   | exact ih1 _ _
   | exact LeO.none _
   | refine LeO.ite ?_ ?_
   | refine LeO.bind ?_ (fun _ => ?_)
  ·intro y0 y1
   unfold dactylref02_Size.j1
   repeat' first
   | (with_reducible exact ih0 _ _)
   | (with_reducible exact ih1 _ _)
   | (with_reducible exact LeO.refl _)
   | (with_reducible exact LeO.none _)
   | (with_reducible refine LeO.ite ?_ ?_)
   | (with_reducible refine LeO.bind ?_ (fun _ => ?_))
   | exact ih0 _ _
   | exact ih1 _ _
   | exact LeO.none _
   | refine LeO.ite ?_ ?_
   | refine LeO.bind ?_ (fun _ => ?_)
theorem dactylref02_Size.mono : ∀ a0 k, LeO (dactylref02_Size.f k a0) (dactylref02_Size.f (k + 1) a0) := by
 intro a0 k
 obtain ⟨ih0, ih1⟩ := dactylref02_Size.mono_l k
 unfold dactylref02_Size.f
 repeat' first
   | (with_reducible exact ih0 _ _)
   | (with_reducible exact ih1 _ _)
   | (with_reducible exact LeO.refl _)
   | (with_reducible exact LeO.none _)
   | (with_reducible refine LeO.ite ?_ ?_)
   | (with_reducible refine LeO.bind ?_ (fun _ => ?_))
   | exact ih0 _ _
   | exact ih1 _ _
   | exact LeO.none _
   | refine LeO.ite ?_ ?_
   | refine LeO.bind ?_ (fun _ => ?_)
set_option maxHeartbeats 8000000 in
set_option maxRecDepth 100000 in
theorem dactylref02_Size.calls (k : Nat) (a0 : Int) (r : Int) (w : World) (h : dactylref02_Size.f k a0 = some r) :
  Calls Try.prog 51 #[.int .u8 a0] w fun e w' => e = .returned (.int .i64 r) ∧ Drawn0 w w' := by
 have H : (if a0 < 128 then (some 1) else (if a0 ≥ 194 then (dactylref02_Size.j0 k a0 (decide (a0 ≤ 223))) else (dactylref02_Size.j0 k a0 false))) = some r := h
 clear h
 by_cases c2 : a0 < 128
 ·rw [if_pos c2] at H
  have c2b0 : decide (a0 < 128) = true := decide_eq_true c2
  clear c2
  obtain rfl := Option.some.inj H
  go_enter Try.func51, Try.ntmps51
  go_wp2
  go_ret
  exact ⟨by first | rfl | (simp; done) | (simp [*]; done), by repeat (first | exact Drawn0.refl _ | apply Drawn0.step)⟩
 ·rw [if_neg c2] at H
  have c2b0 : decide (a0 < 128) = false := decide_eq_false c2
  clear c2
  have HC3 := Aside0.mk H
  clear H
  go_enter Try.func51, Try.ntmps51
  go_upto_region 3 with (fail)
  go_cut [10] (fun v10 wc => ∃ (kq : Nat) (x10_2 : Bool), v10 = .bool x10_2 ∧ Aside0 (dactylref02_Size.j0 kq a0 x10_2 = some r) ∧ Aside0 (kq ≤ k) ∧ Drawn0 w wc)
  case first =>
   have H := HC3.out
   clear HC3
   by_cases c4 : a0 ≥ 194
   ·rw [if_pos c4] at H
    have c4b0 : decide (194 ≤ a0) = true := decide_eq_true c4
    clear c4
    (first | rw [c4b0] | (simp only [i64_w, i32_w]; rw [c4b0]) | skip)
    have H' := Aside0.mk H
    clear H
    go_wp2
    go_meet
    case rel => exact ⟨_, (decide (a0 ≤ 223)), (by first | rfl | (simp; done) | (simp [*]; done)), H', ⟨by first | omega | exact Nat.le_refl _⟩, by repeat (first | exact Drawn0.refl _ | apply Drawn0.step)⟩
   ·rw [if_neg c4] at H
    have c4b0 : decide (194 ≤ a0) = false := decide_eq_false c4
    clear c4
    (first | rw [c4b0] | (simp only [i64_w, i32_w]; rw [c4b0]) | skip)
    have H' := Aside0.mk H
    clear H
    go_wp2
    go_meet
    case rel => exact ⟨_, (false), (by first | rfl | (simp; done) | (simp [*]; done)), H', ⟨by first | omega | exact Nat.le_refl _⟩, by repeat (first | exact Drawn0.refl _ | apply Drawn0.step)⟩
  case rest =>
   clear HC3
   try clear c2
   try clear c2b0
   try clear p2
   try clear c4
   try clear c4b0
   obtain ⟨kq, x10_2, rfl, HA, HJ2, ⟨mc2, rfl⟩⟩ := hcut
   cases kq with
   | zero => exact absurd HA.out (by simp [dactylref02_Size.j0])
   | succ kj2 =>
    have H := HA.out
    clear HA
    simp only [dactylref02_Size.j0] at H
    by_cases c5 : x10_2 = true
    ·subst c5
     have H1 : (some 2) = some r := by rw [if_pos rfl] at H; exact H
     clear H
     have H := H1
     clear H1
     obtain rfl := Option.some.inj H
     go_wp2
     go_ret
     exact ⟨by first | rfl | (simp; done) | (simp [*]; done), by repeat (first | exact Drawn0.refl _ | apply Drawn0.step)⟩
    ·replace c5 := Bool.eq_false_iff.mpr c5
     subst c5
     have H1 : (if a0 ≥ 224 then (dactylref02_Size.j1 kj2 a0 (decide (a0 ≤ 239))) else (dactylref02_Size.j1 kj2 a0 false)) = some r := by rw [if_neg (show ¬ (false = true) by decide)] at H; exact H
     clear H
     have H := H1
     clear H1
     have HC6 := Aside0.mk H
     clear H
     go_upto_region 5 with (fail)
     go_cut [16] (fun v16 wc => ∃ (kq : Nat) (x16_5 : Bool), v16 = .bool x16_5 ∧ Aside0 (dactylref02_Size.j1 kq a0 x16_5 = some r) ∧ Aside0 (kq ≤ kj2) ∧ Drawn0 w wc)
     case first =>
      have H := HC6.out
      clear HC6
      by_cases c7 : a0 ≥ 224
      ·rw [if_pos c7] at H
       have c7b0 : decide (224 ≤ a0) = true := decide_eq_true c7
       clear c7
       (first | rw [c7b0] | (simp only [i64_w, i32_w]; rw [c7b0]) | skip)
       have H' := Aside0.mk H
       clear H
       go_wp2
       go_meet
       case rel => exact ⟨_, (decide (a0 ≤ 239)), (by first | rfl | (simp; done) | (simp [*]; done)), H', ⟨by have := HJ2.out; first | omega | exact Nat.le_refl _⟩, by repeat (first | exact Drawn0.refl _ | apply Drawn0.step)⟩
      ·rw [if_neg c7] at H
       have c7b0 : decide (224 ≤ a0) = false := decide_eq_false c7
       clear c7
       (first | rw [c7b0] | (simp only [i64_w, i32_w]; rw [c7b0]) | skip)
       have H' := Aside0.mk H
       clear H
       go_wp2
       go_meet
       case rel => exact ⟨_, (false), (by first | rfl | (simp; done) | (simp [*]; done)), H', ⟨by have := HJ2.out; first | omega | exact Nat.le_refl _⟩, by repeat (first | exact Drawn0.refl _ | apply Drawn0.step)⟩
     case rest =>
      clear HC6
      try clear c2
      try clear c2b0
      try clear p2
      try clear c4
      try clear c4b0
      try clear c5
      try clear c7
      try clear c7b0
      try clear p2
      obtain ⟨kq, x16_5, rfl, HA, HJ5, ⟨mc5, rfl⟩⟩ := hcut
      cases kq with
      | zero => exact absurd HA.out (by simp [dactylref02_Size.j1])
      | succ kj5 =>
       have H := HA.out
       clear HA
       simp only [dactylref02_Size.j1] at H
       by_cases c8 : x16_5 = true
       ·subst c8
        have H1 : (some 3) = some r := by rw [if_pos rfl] at H; exact H
        clear H
        have H := H1
        clear H1
        obtain rfl := Option.some.inj H
        go_wp2
        go_ret
        exact ⟨by first | rfl | (simp; done) | (simp [*]; done), by repeat (first | exact Drawn0.refl _ | apply Drawn0.step)⟩
       ·replace c8 := Bool.eq_false_iff.mpr c8
        subst c8
        have H1 : (if a0 ≥ 240 then (if a0 ≤ 244 then (some 4) else (some 0)) else (some 0)) = some r := by rw [if_neg (show ¬ (false = true) by decide)] at H; exact H
        clear H
        have H := H1
        clear H1
        by_cases c9 : a0 ≥ 240
        ·rw [if_pos c9] at H
         have c9b0 : decide (240 ≤ a0) = true := decide_eq_true c9
         clear c9
         by_cases c10 : a0 ≤ 244
         ·rw [if_pos c10] at H
          have c10b0 : decide (a0 ≤ 244) = true := decide_eq_true c10
          clear c10
          obtain rfl := Option.some.inj H
          go_wp2
          go_ret
          exact ⟨by first | rfl | (simp; done) | (simp [*]; done), by repeat (first | exact Drawn0.refl _ | apply Drawn0.step)⟩
         ·rw [if_neg c10] at H
          have c10b0 : decide (a0 ≤ 244) = false := decide_eq_false c10
          clear c10
          obtain rfl := Option.some.inj H
          go_wp2
          go_ret
          exact ⟨by first | rfl | (simp; done) | (simp [*]; done), by repeat (first | exact Drawn0.refl _ | apply Drawn0.step)⟩
        ·rw [if_neg c9] at H
         have c9b0 : decide (240 ≤ a0) = false := decide_eq_false c9
         clear c9
         obtain rfl := Option.some.inj H
         go_wp2
         go_ret
         exact ⟨by first | rfl | (simp; done) | (simp [*]; done), by repeat (first | exact Drawn0.refl _ | apply Drawn0.step)⟩

/-! ### dactylref02_May: function 64 -/
def dactylref02_May.j0 : Nat → Int → Int → Int → Bool → Option (Bool)
 | 0, _, _, _, _ => none
 | k + 1, x0, x1, x2, x12 => if x12 = true then (some false) else (if x2 > 1 then (some true) else (if x0 = 224 then (if x1 < 160 then (some (!true)) else (if x0 = 237 then (if x1 > 159 then (some (!true)) else (if x0 = 240 then (if x1 < 144 then (some (!true)) else (if x0 = 244 then (some (!(decide (x1 > 143)))) else (some (!false)))) else (if x0 = 244 then (some (!(decide (x1 > 143)))) else (some (!false))))) else (if x0 = 240 then (if x1 < 144 then (some (!true)) else (if x0 = 244 then (some (!(decide (x1 > 143)))) else (some (!false)))) else (if x0 = 244 then (some (!(decide (x1 > 143)))) else (some (!false)))))) else (if x0 = 237 then (if x1 > 159 then (some (!true)) else (if x0 = 240 then (if x1 < 144 then (some (!true)) else (if x0 = 244 then (some (!(decide (x1 > 143)))) else (some (!false)))) else (if x0 = 244 then (some (!(decide (x1 > 143)))) else (some (!false))))) else (if x0 = 240 then (if x1 < 144 then (some (!true)) else (if x0 = 244 then (some (!(decide (x1 > 143)))) else (some (!false)))) else (if x0 = 244 then (some (!(decide (x1 > 143)))) else (some (!false)))))))
def dactylref02_May.f (k : Nat) (a0 : Int) (a1 : Int) (a2 : Int) : Option (Bool) := if a1 < 128 then (dactylref02_May.j0 k a0 a1 a2 true) else (dactylref02_May.j0 k a0 a1 a2 (decide (a1 > 191)))
theorem dactylref02_May.mono_l : ∀ k, (∀ y0 y1 y2 y3, LeO (dactylref02_May.j0 k y0 y1 y2 y3) (dactylref02_May.j0 (k + 1) y0 y1 y2 y3))
 | 0 => fun _ _ _ _ r h => by simp [dactylref02_May.j0] at h
 | k + 1 => by
  have ih0 := dactylref02_May.mono_l k
  ·intro y0 y1 y2 y3
   unfold dactylref02_May.j0
   repeat' first
   | (with_reducible exact ih0 _ _ _ _)
   | (with_reducible exact LeO.refl _)
   | (with_reducible exact LeO.none _)
   | (with_reducible refine LeO.ite ?_ ?_)
   | (with_reducible refine LeO.bind ?_ (fun _ => ?_))
   | exact ih0 _ _ _ _
   | exact LeO.none _
   | refine LeO.ite ?_ ?_
   | refine LeO.bind ?_ (fun _ => ?_)
theorem dactylref02_May.mono : ∀ a0 a1 a2 k, LeO (dactylref02_May.f k a0 a1 a2) (dactylref02_May.f (k + 1) a0 a1 a2) := by
 intro a0 a1 a2 k
 have ih0 := dactylref02_May.mono_l k
 unfold dactylref02_May.f
 repeat' first
   | (with_reducible exact ih0 _ _ _ _)
   | (with_reducible exact LeO.refl _)
   | (with_reducible exact LeO.none _)
   | (with_reducible refine LeO.ite ?_ ?_)
   | (with_reducible refine LeO.bind ?_ (fun _ => ?_))
   | exact ih0 _ _ _ _
   | exact LeO.none _
   | refine LeO.ite ?_ ?_
   | refine LeO.bind ?_ (fun _ => ?_)
set_option maxHeartbeats 8000000 in
set_option maxRecDepth 100000 in
theorem dactylref02_May.calls (k : Nat) (a0 : Int) (a1 : Int) (a2 : Int) (r : Bool) (w : World) (h : dactylref02_May.f k a0 a1 a2 = some r) :
  Calls Try.prog 64 #[.int .u8 a0, .int .u8 a1, .int .i64 a2] w fun e w' => e = .returned (.bool r) ∧ Drawn0 w w' := by
 have H : (if a1 < 128 then (dactylref02_May.j0 k a0 a1 a2 true) else (dactylref02_May.j0 k a0 a1 a2 (decide (a1 > 191)))) = some r := h
 clear h
 have HC4 := Aside0.mk H
 clear H
 go_enter Try.func64, Try.ntmps64
 go_upto_region 1 with (fail)
 go_cut [12] (fun v12 wc => ∃ (kq : Nat) (x12_3 : Bool), v12 = .bool x12_3 ∧ Aside0 (dactylref02_May.j0 kq a0 a1 a2 x12_3 = some r) ∧ Aside0 (kq ≤ k) ∧ Drawn0 w wc)
 case first =>
  have H := HC4.out
  clear HC4
  by_cases c5 : a1 < 128
  ·rw [if_pos c5] at H
   have c5b0 : decide (a1 < 128) = true := decide_eq_true c5
   clear c5
   (first | rw [c5b0] | (simp only [i64_w, i32_w]; rw [c5b0]) | skip)
   have H' := Aside0.mk H
   clear H
   go_wp2
   go_meet
   case rel => exact ⟨_, (true), (by first | rfl | (simp; done) | (simp [*]; done)), H', ⟨by first | omega | exact Nat.le_refl _⟩, by repeat (first | exact Drawn0.refl _ | apply Drawn0.step)⟩
  ·rw [if_neg c5] at H
   have c5b0 : decide (a1 < 128) = false := decide_eq_false c5
   clear c5
   (first | rw [c5b0] | (simp only [i64_w, i32_w]; rw [c5b0]) | skip)
   have H' := Aside0.mk H
   clear H
   go_wp2
   go_meet
   case rel => exact ⟨_, (decide (a1 > 191)), (by first | rfl | (simp; done) | (simp [*]; done)), H', ⟨by first | omega | exact Nat.le_refl _⟩, by repeat (first | exact Drawn0.refl _ | apply Drawn0.step)⟩
 case rest =>
  clear HC4
  try clear p2
  try clear c5
  try clear c5b0
  obtain ⟨kq, x12_3, rfl, HA, HJ3, ⟨mc3, rfl⟩⟩ := hcut
  cases kq with
  | zero => exact absurd HA.out (by simp [dactylref02_May.j0])
  | succ kj3 =>
   have H := HA.out
   clear HA
   simp only [dactylref02_May.j0] at H
   by_cases c6 : x12_3 = true
   ·subst c6
    have H1 : (some false) = some r := by rw [if_pos rfl] at H; exact H
    clear H
    have H := H1
    clear H1
    obtain rfl := Option.some.inj H
    go_wp2
    go_ret
    exact ⟨by first | rfl | (simp; done) | (simp [*]; done), by repeat (first | exact Drawn0.refl _ | apply Drawn0.step)⟩
   ·replace c6 := Bool.eq_false_iff.mpr c6
    subst c6
    have H1 : (if a2 > 1 then (some true) else (if a0 = 224 then (if a1 < 160 then (some (!true)) else (if a0 = 237 then (if a1 > 159 then (some (!true)) else (if a0 = 240 then (if a1 < 144 then (some (!true)) else (if a0 = 244 then (some (!(decide (a1 > 143)))) else (some (!false)))) else (if a0 = 244 then (some (!(decide (a1 > 143)))) else (some (!false))))) else (if a0 = 240 then (if a1 < 144 then (some (!true)) else (if a0 = 244 then (some (!(decide (a1 > 143)))) else (some (!false)))) else (if a0 = 244 then (some (!(decide (a1 > 143)))) else (some (!false)))))) else (if a0 = 237 then (if a1 > 159 then (some (!true)) else (if a0 = 240 then (if a1 < 144 then (some (!true)) else (if a0 = 244 then (some (!(decide (a1 > 143)))) else (some (!false)))) else (if a0 = 244 then (some (!(decide (a1 > 143)))) else (some (!false))))) else (if a0 = 240 then (if a1 < 144 then (some (!true)) else (if a0 = 244 then (some (!(decide (a1 > 143)))) else (some (!false)))) else (if a0 = 244 then (some (!(decide (a1 > 143)))) else (some (!false))))))) = some r := by rw [if_neg (show ¬ (false = true) by decide)] at H; exact H
    clear H
    have H := H1
    clear H1
    by_cases c7 : a2 > 1
    ·rw [if_pos c7] at H
     have c7b0 : decide (1 < a2) = true := decide_eq_true c7
     clear c7
     obtain rfl := Option.some.inj H
     go_wp2
     go_ret
     exact ⟨by first | rfl | (simp; done) | (simp [*]; done), by repeat (first | exact Drawn0.refl _ | apply Drawn0.step)⟩
    ·rw [if_neg c7] at H
     have c7b0 : decide (1 < a2) = false := decide_eq_false c7
     clear c7
     by_cases c8 : a0 = 224
     ·rw [if_pos c8] at H
      have c8b0 : (a0 == 224) = true := beq_iff_eq.mpr c8
      have c8b1 : (a0 != 224) = false := bne_eq_false_iff_eq.mpr c8
      clear c8
      by_cases c9 : a1 < 160
      ·rw [if_pos c9] at H
       have c9b0 : decide (a1 < 160) = true := decide_eq_true c9
       clear c9
       obtain rfl := Option.some.inj H
       go_wp2
       go_ret
       exact ⟨by first | rfl | (simp; done) | (simp [*]; done), by repeat (first | exact Drawn0.refl _ | apply Drawn0.step)⟩
      ·rw [if_neg c9] at H
       have c9b0 : decide (a1 < 160) = false := decide_eq_false c9
       clear c9
       by_cases c10 : a0 = 237
       ·rw [if_pos c10] at H
        have c10b0 : (a0 == 237) = true := beq_iff_eq.mpr c10
        have c10b1 : (a0 != 237) = false := bne_eq_false_iff_eq.mpr c10
        clear c10
        by_cases c11 : a1 > 159
        ·rw [if_pos c11] at H
         have c11b0 : decide (159 < a1) = true := decide_eq_true c11
         clear c11
         obtain rfl := Option.some.inj H
         go_wp2
         go_ret
         exact ⟨by first | rfl | (simp; done) | (simp [*]; done), by repeat (first | exact Drawn0.refl _ | apply Drawn0.step)⟩
        ·rw [if_neg c11] at H
         have c11b0 : decide (159 < a1) = false := decide_eq_false c11
         clear c11
         by_cases c12 : a0 = 240
         ·rw [if_pos c12] at H
          have c12b0 : (a0 == 240) = true := beq_iff_eq.mpr c12
          have c12b1 : (a0 != 240) = false := bne_eq_false_iff_eq.mpr c12
          clear c12
          by_cases c13 : a1 < 144
          ·rw [if_pos c13] at H
           have c13b0 : decide (a1 < 144) = true := decide_eq_true c13
           clear c13
           obtain rfl := Option.some.inj H
           go_wp2
           go_ret
           exact ⟨by first | rfl | (simp; done) | (simp [*]; done), by repeat (first | exact Drawn0.refl _ | apply Drawn0.step)⟩
          ·rw [if_neg c13] at H
           have c13b0 : decide (a1 < 144) = false := decide_eq_false c13
           clear c13
           by_cases c14 : a0 = 244
           ·rw [if_pos c14] at H
            have c14b0 : (a0 == 244) = true := beq_iff_eq.mpr c14
            have c14b1 : (a0 != 244) = false := bne_eq_false_iff_eq.mpr c14
            clear c14
            obtain rfl := Option.some.inj H
            go_wp2
            go_ret
            exact ⟨by first | rfl | (simp; done) | (simp [*]; done), by repeat (first | exact Drawn0.refl _ | apply Drawn0.step)⟩
           ·rw [if_neg c14] at H
            have c14b0 : (a0 == 244) = false := beq_eq_false_iff_ne.mpr c14
            have c14b1 : (a0 != 244) = true := bne_iff_ne.mpr c14
            obtain rfl := Option.some.inj H
            go_wp2
            go_ret
            exact ⟨by first | rfl | (simp; done) | (simp [*]; done), by repeat (first | exact Drawn0.refl _ | apply Drawn0.step)⟩
         ·rw [if_neg c12] at H
          have c12b0 : (a0 == 240) = false := beq_eq_false_iff_ne.mpr c12
          have c12b1 : (a0 != 240) = true := bne_iff_ne.mpr c12
          by_cases c15 : a0 = 244
          ·rw [if_pos c15] at H
           have c15b0 : (a0 == 244) = true := beq_iff_eq.mpr c15
           have c15b1 : (a0 != 244) = false := bne_eq_false_iff_eq.mpr c15
           clear c15
           obtain rfl := Option.some.inj H
           go_wp2
           go_ret
           exact ⟨by first | rfl | (simp; done) | (simp [*]; done), by repeat (first | exact Drawn0.refl _ | apply Drawn0.step)⟩
          ·rw [if_neg c15] at H
           have c15b0 : (a0 == 244) = false := beq_eq_false_iff_ne.mpr c15
           have c15b1 : (a0 != 244) = true := bne_iff_ne.mpr c15
           obtain rfl := Option.some.inj H
           go_wp2
           go_ret
           exact ⟨by first | rfl | (simp; done) | (simp [*]; done), by repeat (first | exact Drawn0.refl _ | apply Drawn0.step)⟩
       ·rw [if_neg c10] at H
        have c10b0 : (a0 == 237) = false := beq_eq_false_iff_ne.mpr c10
        have c10b1 : (a0 != 237) = true := bne_iff_ne.mpr c10
        by_cases c16 : a0 = 240
        ·rw [if_pos c16] at H
         have c16b0 : (a0 == 240) = true := beq_iff_eq.mpr c16
         have c16b1 : (a0 != 240) = false := bne_eq_false_iff_eq.mpr c16
         clear c16
         by_cases c17 : a1 < 144
         ·rw [if_pos c17] at H
          have c17b0 : decide (a1 < 144) = true := decide_eq_true c17
          clear c17
          obtain rfl := Option.some.inj H
          go_wp2
          go_ret
          exact ⟨by first | rfl | (simp; done) | (simp [*]; done), by repeat (first | exact Drawn0.refl _ | apply Drawn0.step)⟩
         ·rw [if_neg c17] at H
          have c17b0 : decide (a1 < 144) = false := decide_eq_false c17
          clear c17
          by_cases c18 : a0 = 244
          ·rw [if_pos c18] at H
           have c18b0 : (a0 == 244) = true := beq_iff_eq.mpr c18
           have c18b1 : (a0 != 244) = false := bne_eq_false_iff_eq.mpr c18
           clear c18
           obtain rfl := Option.some.inj H
           go_wp2
           go_ret
           exact ⟨by first | rfl | (simp; done) | (simp [*]; done), by repeat (first | exact Drawn0.refl _ | apply Drawn0.step)⟩
          ·rw [if_neg c18] at H
           have c18b0 : (a0 == 244) = false := beq_eq_false_iff_ne.mpr c18
           have c18b1 : (a0 != 244) = true := bne_iff_ne.mpr c18
           obtain rfl := Option.some.inj H
           go_wp2
           go_ret
           exact ⟨by first | rfl | (simp; done) | (simp [*]; done), by repeat (first | exact Drawn0.refl _ | apply Drawn0.step)⟩
        ·rw [if_neg c16] at H
         have c16b0 : (a0 == 240) = false := beq_eq_false_iff_ne.mpr c16
         have c16b1 : (a0 != 240) = true := bne_iff_ne.mpr c16
         by_cases c19 : a0 = 244
         ·rw [if_pos c19] at H
          have c19b0 : (a0 == 244) = true := beq_iff_eq.mpr c19
          have c19b1 : (a0 != 244) = false := bne_eq_false_iff_eq.mpr c19
          clear c19
          obtain rfl := Option.some.inj H
          go_wp2
          go_ret
          exact ⟨by first | rfl | (simp; done) | (simp [*]; done), by repeat (first | exact Drawn0.refl _ | apply Drawn0.step)⟩
         ·rw [if_neg c19] at H
          have c19b0 : (a0 == 244) = false := beq_eq_false_iff_ne.mpr c19
          have c19b1 : (a0 != 244) = true := bne_iff_ne.mpr c19
          obtain rfl := Option.some.inj H
          go_wp2
          go_ret
          exact ⟨by first | rfl | (simp; done) | (simp [*]; done), by repeat (first | exact Drawn0.refl _ | apply Drawn0.step)⟩
     ·rw [if_neg c8] at H
      have c8b0 : (a0 == 224) = false := beq_eq_false_iff_ne.mpr c8
      have c8b1 : (a0 != 224) = true := bne_iff_ne.mpr c8
      by_cases c20 : a0 = 237
      ·rw [if_pos c20] at H
       have c20b0 : (a0 == 237) = true := beq_iff_eq.mpr c20
       have c20b1 : (a0 != 237) = false := bne_eq_false_iff_eq.mpr c20
       clear c20
       by_cases c21 : a1 > 159
       ·rw [if_pos c21] at H
        have c21b0 : decide (159 < a1) = true := decide_eq_true c21
        clear c21
        obtain rfl := Option.some.inj H
        go_wp2
        go_ret
        exact ⟨by first | rfl | (simp; done) | (simp [*]; done), by repeat (first | exact Drawn0.refl _ | apply Drawn0.step)⟩
       ·rw [if_neg c21] at H
        have c21b0 : decide (159 < a1) = false := decide_eq_false c21
        clear c21
        by_cases c22 : a0 = 240
        ·rw [if_pos c22] at H
         have c22b0 : (a0 == 240) = true := beq_iff_eq.mpr c22
         have c22b1 : (a0 != 240) = false := bne_eq_false_iff_eq.mpr c22
         clear c22
         by_cases c23 : a1 < 144
         ·rw [if_pos c23] at H
          have c23b0 : decide (a1 < 144) = true := decide_eq_true c23
          clear c23
          obtain rfl := Option.some.inj H
          go_wp2
          go_ret
          exact ⟨by first | rfl | (simp; done) | (simp [*]; done), by repeat (first | exact Drawn0.refl _ | apply Drawn0.step)⟩
         ·rw [if_neg c23] at H
          have c23b0 : decide (a1 < 144) = false := decide_eq_false c23
          clear c23
          by_cases c24 : a0 = 244
          ·rw [if_pos c24] at H
           have c24b0 : (a0 == 244) = true := beq_iff_eq.mpr c24
           have c24b1 : (a0 != 244) = false := bne_eq_false_iff_eq.mpr c24
           clear c24
           obtain rfl := Option.some.inj H
           go_wp2
           go_ret
           exact ⟨by first | rfl | (simp; done) | (simp [*]; done), by repeat (first | exact Drawn0.refl _ | apply Drawn0.step)⟩
          ·rw [if_neg c24] at H
           have c24b0 : (a0 == 244) = false := beq_eq_false_iff_ne.mpr c24
           have c24b1 : (a0 != 244) = true := bne_iff_ne.mpr c24
           obtain rfl := Option.some.inj H
           go_wp2
           go_ret
           exact ⟨by first | rfl | (simp; done) | (simp [*]; done), by repeat (first | exact Drawn0.refl _ | apply Drawn0.step)⟩
        ·rw [if_neg c22] at H
         have c22b0 : (a0 == 240) = false := beq_eq_false_iff_ne.mpr c22
         have c22b1 : (a0 != 240) = true := bne_iff_ne.mpr c22
         by_cases c25 : a0 = 244
         ·rw [if_pos c25] at H
          have c25b0 : (a0 == 244) = true := beq_iff_eq.mpr c25
          have c25b1 : (a0 != 244) = false := bne_eq_false_iff_eq.mpr c25
          clear c25
          obtain rfl := Option.some.inj H
          go_wp2
          go_ret
          exact ⟨by first | rfl | (simp; done) | (simp [*]; done), by repeat (first | exact Drawn0.refl _ | apply Drawn0.step)⟩
         ·rw [if_neg c25] at H
          have c25b0 : (a0 == 244) = false := beq_eq_false_iff_ne.mpr c25
          have c25b1 : (a0 != 244) = true := bne_iff_ne.mpr c25
          obtain rfl := Option.some.inj H
          go_wp2
          go_ret
          exact ⟨by first | rfl | (simp; done) | (simp [*]; done), by repeat (first | exact Drawn0.refl _ | apply Drawn0.step)⟩
      ·rw [if_neg c20] at H
       have c20b0 : (a0 == 237) = false := beq_eq_false_iff_ne.mpr c20
       have c20b1 : (a0 != 237) = true := bne_iff_ne.mpr c20
       by_cases c26 : a0 = 240
       ·rw [if_pos c26] at H
        have c26b0 : (a0 == 240) = true := beq_iff_eq.mpr c26
        have c26b1 : (a0 != 240) = false := bne_eq_false_iff_eq.mpr c26
        clear c26
        by_cases c27 : a1 < 144
        ·rw [if_pos c27] at H
         have c27b0 : decide (a1 < 144) = true := decide_eq_true c27
         clear c27
         obtain rfl := Option.some.inj H
         go_wp2
         go_ret
         exact ⟨by first | rfl | (simp; done) | (simp [*]; done), by repeat (first | exact Drawn0.refl _ | apply Drawn0.step)⟩
        ·rw [if_neg c27] at H
         have c27b0 : decide (a1 < 144) = false := decide_eq_false c27
         clear c27
         by_cases c28 : a0 = 244
         ·rw [if_pos c28] at H
          have c28b0 : (a0 == 244) = true := beq_iff_eq.mpr c28
          have c28b1 : (a0 != 244) = false := bne_eq_false_iff_eq.mpr c28
          clear c28
          obtain rfl := Option.some.inj H
          go_wp2
          go_ret
          exact ⟨by first | rfl | (simp; done) | (simp [*]; done), by repeat (first | exact Drawn0.refl _ | apply Drawn0.step)⟩
         ·rw [if_neg c28] at H
          have c28b0 : (a0 == 244) = false := beq_eq_false_iff_ne.mpr c28
          have c28b1 : (a0 != 244) = true := bne_iff_ne.mpr c28
          obtain rfl := Option.some.inj H
          go_wp2
          go_ret
          exact ⟨by first | rfl | (simp; done) | (simp [*]; done), by repeat (first | exact Drawn0.refl _ | apply Drawn0.step)⟩
       ·rw [if_neg c26] at H
        have c26b0 : (a0 == 240) = false := beq_eq_false_iff_ne.mpr c26
        have c26b1 : (a0 != 240) = true := bne_iff_ne.mpr c26
        by_cases c29 : a0 = 244
        ·rw [if_pos c29] at H
         have c29b0 : (a0 == 244) = true := beq_iff_eq.mpr c29
         have c29b1 : (a0 != 244) = false := bne_eq_false_iff_eq.mpr c29
         clear c29
         obtain rfl := Option.some.inj H
         go_wp2
         go_ret
         exact ⟨by first | rfl | (simp; done) | (simp [*]; done), by repeat (first | exact Drawn0.refl _ | apply Drawn0.step)⟩
        ·rw [if_neg c29] at H
         have c29b0 : (a0 == 244) = false := beq_eq_false_iff_ne.mpr c29
         have c29b1 : (a0 != 244) = true := bne_iff_ne.mpr c29
         obtain rfl := Option.some.inj H
         go_wp2
         go_ret
         exact ⟨by first | rfl | (simp; done) | (simp [*]; done), by repeat (first | exact Drawn0.refl _ | apply Drawn0.step)⟩

end Go.Proofs.Ytddkmhkglmcihaa.PAll
