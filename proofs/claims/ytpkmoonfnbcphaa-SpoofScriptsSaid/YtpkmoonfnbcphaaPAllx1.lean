-- Printed for this claim by the session's own program (wip/tool/hprint.py) over the kit's print; some functions' texts are the session's own.
import Derived.Test.YtpkmoonfnbcphaaPAllx0
namespace Go.Proofs.Ytpkmoonfnbcphaa.PAll
open Go.RowKit Go.Proofs.YtpkmoonfnbcphaaW.PrintWords Go.Proofs.YtpkmoonfnbcphaaW.PrintLast Go.Proofs.YtpkmoonfnbcphaaW.PrintMore
attribute [local go_sem] max2_int min2_int max_two min_two max_three min_three max_four min_four   -- for this text's walks alone
set_option linter.unusedVariables false
set_option linter.unusedSimpArgs false

/-! ### stringslite_HasPrefix: function 82 -/
def stringslite_HasPrefix.f (a0 : ByteArray) (a1 : ByteArray) : Option (Bool) := if (a0.size : Int) ≥ (a1.size : Int) then (if 0 ≤ (a1.size : Int) then (if (a1.size : Int) ≤ (a0.size : Int) then (some ((a0.extract 0 ((a1.size : Int) : Int).toNat).toList == a1.toList)) else (none)) else (none)) else (some false)
set_option maxHeartbeats 8000000 in
set_option maxRecDepth 100000 in
theorem stringslite_HasPrefix.calls (a0 : ByteArray) (a1 : ByteArray) (r : Bool) (w : World) (h : stringslite_HasPrefix.f a0 a1 = some r) :
  Calls Try.prog 82 #[.string a0, .string a1] w fun e w' => e = .returned (.bool r) ∧ Drawn0 w w' := by
 have H : (if (a0.size : Int) ≥ (a1.size : Int) then (if 0 ≤ (a1.size : Int) then (if (a1.size : Int) ≤ (a0.size : Int) then (some ((a0.extract 0 ((a1.size : Int) : Int).toNat).toList == a1.toList)) else (none)) else (none)) else (some false)) = some r := h
 clear h
 by_cases c3 : (a0.size : Int) ≥ (a1.size : Int)
 ·rw [if_pos c3] at H
  have c3b0 : decide ((a1.size : Int) ≤ (a0.size : Int)) = true := decide_eq_true c3
  have c3b1 : decide (a1.size ≤ a0.size) = true := decide_eq_true (Int.ofNat_le.mp c3)
  clear c3
  by_cases c4 : 0 ≤ (a1.size : Int)
  ·rw [if_pos c4] at H
   have c4b0 := eq_true c4
   have c4b1 : decide (0 ≤ (a1.size : Int)) = true := decide_eq_true c4
   clear c4
   by_cases c5 : (a1.size : Int) ≤ (a0.size : Int)
   ·rw [if_pos c5] at H
    have c5b0 := eq_true c5
    have c5b1 : decide ((a1.size : Int) ≤ (a0.size : Int)) = true := decide_eq_true c5
    clear c5
    obtain rfl := Option.some.inj H
    go_enter Try.func82, Try.ntmps82
    go_wp2
    go_ret
    exact ⟨by first | rfl | (simp; done) | (simp [*]; done), by repeat (first | exact Drawn0.refl _ | apply Drawn0.step)⟩
   ·rw [if_neg c5] at H
    exact absurd H (by simp)
  ·rw [if_neg c4] at H
   exact absurd H (by simp)
 ·rw [if_neg c3] at H
  have c3b0 : decide ((a1.size : Int) ≤ (a0.size : Int)) = false := decide_eq_false c3
  have c3b1 : decide (a1.size ≤ a0.size) = false := decide_eq_false (fun h => c3 (Int.ofNat_le.mpr h))
  clear c3
  obtain rfl := Option.some.inj H
  go_enter Try.func82, Try.ntmps82
  go_wp2
  go_ret
  exact ⟨by first | rfl | (simp; done) | (simp [*]; done), by repeat (first | exact Drawn0.refl _ | apply Drawn0.step)⟩

/-! ### strings_HasPrefix: function 66 -/
def strings_HasPrefix.f (a0 : ByteArray) (a1 : ByteArray) : Option (Bool) := (stringslite_HasPrefix.f a0 a1).bind fun t101 => (some t101)
set_option maxHeartbeats 8000000 in
set_option maxRecDepth 100000 in
theorem strings_HasPrefix.calls (a0 : ByteArray) (a1 : ByteArray) (r : Bool) (w : World) (h : strings_HasPrefix.f a0 a1 = some r) :
  Calls Try.prog 66 #[.string a0, .string a1] w fun e w' => e = .returned (.bool r) ∧ Drawn0 w w' := by
 have H : ((stringslite_HasPrefix.f a0 a1).bind fun t101 => (some t101)) = some r := h
 clear h
 replace H := Option.bind_eq_some_iff.mp H
 obtain ⟨t101, A30, H⟩ := H
 replace H : (some t101) = some r := H
 have A3 := Aside0.mk A30
 clear A30
 obtain rfl := Option.some.inj H
 go_enter Try.func66, Try.ntmps66
 go_wp2_with (first | ((with_reducible refine gate_callee (f := 82) rfl ?_); refine goesL_ (some 7) rfl rfl Try.func82 (by kernel_rfl) rfl #[.string a0, .string a1] rfl zl ?_; (with_reducible refine (stringslite_HasPrefix.calls a0 a1 t101 _ A3.out).mono ?_); rintro e w' ⟨rfl, ⟨nd, rfl⟩⟩; refine ⟨_, rfl, ?_⟩))
 go_ret
 exact ⟨by first | rfl | (simp; done) | (simp [*]; done), by repeat (first | exact Drawn0.refl _ | apply Drawn0.step)⟩

/-! ### utf_value: function 55 -/
def utf_value.f (a0 : ByteArray) (a1 : Int) : Option (Int) := if a1 = 65533 then ((strings_HasPrefix.f a0 (⟨#[239, 191, 189]⟩ : ByteArray)).bind fun t102 => (if t102 = true then (some (wrap64 (a1))) else (if 0 < (a0.size : Int) then (some (wrap64 (1114112 + (wrap64 (bt a0 0))))) else (none)))) else (some (wrap64 (a1)))
set_option maxHeartbeats 8000000 in
set_option maxRecDepth 100000 in
theorem utf_value.calls (a0 : ByteArray) (a1 : Int) (r : Int) (w : World) (h : utf_value.f a0 a1 = some r) :
  Calls Try.prog 55 #[.string a0, .int .i32 a1] w fun e w' => e = .returned (.int .i64 r) ∧ Drawn0 w w' := by
 have H : (if a1 = 65533 then ((strings_HasPrefix.f a0 (⟨#[239, 191, 189]⟩ : ByteArray)).bind fun t102 => (if t102 = true then (some (wrap64 (a1))) else (if 0 < (a0.size : Int) then (some (wrap64 (1114112 + (wrap64 (bt a0 0))))) else (none)))) else (some (wrap64 (a1)))) = some r := h
 clear h
 by_cases c3 : a1 = 65533
 ·rw [if_pos c3] at H
  have c3b0 : (a1 == 65533) = true := beq_iff_eq.mpr c3
  have c3b1 : (a1 != 65533) = false := bne_eq_false_iff_eq.mpr c3
  clear c3
  replace H := Option.bind_eq_some_iff.mp H
  obtain ⟨t102, A40, H⟩ := H
  replace H : (if t102 = true then (some (wrap64 (a1))) else (if 0 < (a0.size : Int) then (some (wrap64 (1114112 + (wrap64 (bt a0 0))))) else (none))) = some r := H
  have A4 := Aside0.mk A40
  clear A40
  by_cases c5 : t102 = true
  ·subst c5
   have H1 : (some (wrap64 (a1))) = some r := by rw [if_pos rfl] at H; exact H
   clear H
   have H := H1
   clear H1
   obtain rfl := Option.some.inj H
   go_enter Try.func55, Try.ntmps55
   go_wp2_with (first | (go_at_call 66; (with_reducible refine (strings_HasPrefix.calls a0 (⟨#[239, 191, 189]⟩ : ByteArray) true _ A4.out).mono ?_); rintro e w' ⟨rfl, ⟨nd, rfl⟩⟩))
   go_ret
   exact ⟨by first | rfl | (simp; done) | (simp [*]; done), by repeat (first | exact Drawn0.refl _ | apply Drawn0.step)⟩
  ·replace c5 := Bool.eq_false_iff.mpr c5
   subst c5
   have H1 : (if 0 < (a0.size : Int) then (some (wrap64 (1114112 + (wrap64 (bt a0 0))))) else (none)) = some r := by rw [if_neg (show ¬ (false = true) by decide)] at H; exact H
   clear H
   have H := H1
   clear H1
   by_cases c6 : 0 < (a0.size : Int)
   ·rw [if_pos c6] at H
    have c6b0 : decide (0 < (a0.size : Int)) = true := decide_eq_true c6
    have c6b1 : decide (0 < a0.size) = true := decide_eq_true (by omega)
    clear c6
    obtain rfl := Option.some.inj H
    go_enter Try.func55, Try.ntmps55
    go_wp2_with (first | (go_at_call 66; (with_reducible refine (strings_HasPrefix.calls a0 (⟨#[239, 191, 189]⟩ : ByteArray) false _ A4.out).mono ?_); rintro e w' ⟨rfl, ⟨nd, rfl⟩⟩; have p7 : 0 ≤ (0 : Int) := (by omega); have q7 : 0 < a0.size := (by have : (0 : Int) < (a0.size : Int) := of_decide_eq_true za; omega); have hx7 : ∀ h : 0 < a0.size, ((a0[0]'h).toNat : Int) = bt a0 0 := bt_at a0 0; clear p7; have qi7 : (0 < (a0.size : Int)) = True := eq_true (of_decide_eq_true za); replace q7 := eq_true q7))
    go_ret
    exact ⟨by first | rfl | (simp; done) | (simp [*]; done), by repeat (first | exact Drawn0.refl _ | apply Drawn0.step)⟩
   ·rw [if_neg c6] at H
    exact absurd H (by simp)
 ·rw [if_neg c3] at H
  have c3b0 : (a1 == 65533) = false := beq_eq_false_iff_ne.mpr c3
  have c3b1 : (a1 != 65533) = true := bne_iff_ne.mpr c3
  obtain rfl := Option.some.inj H
  go_enter Try.func55, Try.ntmps55
  go_wp2
  go_ret
  exact ⟨by first | rfl | (simp; done) | (simp [*]; done), by repeat (first | exact Drawn0.refl _ | apply Drawn0.step)⟩

/-! ### utf_One: function 41 -/
def utf_One.v (s : ByteArray) : Int := (utf_value.f s ((Utf8.decode s 0).1 : Int)).getD 0
def utf_One.f (a0 : ByteArray) : Option (Int × Int) := if a0.size = 0 then some (0, 0) else some (utf_One.v a0, ((Utf8.decode a0 0).2 : Int))
theorem utf_One.has (s p : ByteArray) : ∃ b, strings_HasPrefix.f s p = some b := by
 unfold strings_HasPrefix.f stringslite_HasPrefix.f
 repeat' split
 all_goals first | exact ⟨_, rfl⟩ | omega
theorem utf_One.val (s : ByteArray) (r : Int) (h : 0 < s.size) : ∃ v, utf_value.f s r = some v := by
 unfold utf_value.f
 obtain ⟨b, hb⟩ := utf_One.has s (⟨#[239, 191, 189]⟩ : ByteArray)
 rw [hb]
 simp only [Option.bind_some]
 repeat' split
 all_goals first | exact ⟨_, rfl⟩ | omega
theorem utf_One.value_some (s : ByteArray) (h : 0 < s.size) : utf_value.f s ((Utf8.decode s 0).1 : Int) = some (utf_One.v s) := by
 obtain ⟨v, hv⟩ := utf_One.val s ((Utf8.decode s 0).1 : Int) h
 unfold utf_One.v
 rw [hv]
 rfl
theorem utf_One.width (s : ByteArray) (h : 0 < s.size) : (Utf8.decode s 0).2 ≤ s.size := by
 unfold Utf8.decode
 simp only [Nat.zero_add, Bool.and_eq_true, decide_eq_true_eq]
 repeat' split
 all_goals (first | omega | (simp only; omega))
set_option maxHeartbeats 8000000 in
set_option maxRecDepth 100000 in
theorem utf_One.calls (a0 : ByteArray) (r1 r2 : Int) (w : World) (h : utf_One.f a0 = some (r1, r2)) :
  Calls Try.prog 41 #[.string a0] w fun e w' => e = .returned (.tuple #[.int .i64 r1, .int .i64 r2]) ∧ Below w.heap.size w w' := by
 go_enter Try.func41, Try.ntmps41
 go_wp2
 go_loopg [4, 5, 6] 2 (fun b v4 v5 v6 wr => ∃ pos : Nat, wr.heap[w.heap.size]? = some (.stringIter a0 pos) ∧ Aside0 (Below w.heap.size w wr) ∧ v5 = .int .i64 (a0.size : Int) ∧ ((b = 2 ∧ v4 = .int .i64 0 ∧ v6 = .int .i64 0 ∧ pos = 0) ∨ (b = 1 ∧ v4 = .int .i64 (utf_One.v a0) ∧ v6 = .int .i64 1 ∧ pos = (Utf8.decode a0 0).2 ∧ 0 < a0.size)))
 case atStart => exact ⟨0, World.iter_heap w a0 0, ⟨(Below.refl _ _).alloc (Nat.le_refl _) _⟩, rfl, .inl ⟨rfl, rfl, rfl, rfl⟩⟩
 case round =>
  obtain ⟨pos, hit, HB, e5, hcase⟩ := hrel
  subst e5
  rcases hcase with ⟨hk, e4, e6, hpos⟩ | ⟨hk, e4, e6, hpos, h0⟩
  ·subst hpos
   by_cases hp : 0 < a0.size
   ·have hnx : ∀ ty, (Instr.next (.pointer (some ⟨w.heap.size, 0, none⟩)) true ty).run Try.prog wr = _ := fun ty => Lib.run_next_any_at wr w.heap.size a0 0 ty hit hp
    have hv := Aside0.mk (utf_One.value_some a0 hp)
    have hdl := decode_le a0 0
    have hit2 := Lib.iterAt_heap wr w.heap.size a0 0 (0 + (Utf8.decode a0 0).2) hit
    have hbw2 := Lib.below_iterAt HB.out (k := w.heap.size) (Nat.le_refl _) a0 (0 + (Utf8.decode a0 0).2)
    obtain ⟨W1, hW1⟩ : ∃ W1, W1 = wr.iterAt w.heap.size a0 (0 + (Utf8.decode a0 0).2) := ⟨_, rfl⟩
    rw [← hW1] at hnx hit2 hbw2
    have hlt : w.heap.size < W1.heap.size := lt_of_block hit2
    clear hW1 hit HB
    have hit2' := Aside0.mk hit2
    have HB := Aside0.mk hbw2
    have HP := Aside0.mk hp
    clear hit2 hbw2 hp
    subst hk e4 e6
    go_wp2_with (first | ((with_reducible refine gate_callee (f := 55) rfl ?_); refine goesL_ (some 22) rfl rfl Try.func55 (by kernel_rfl) rfl #[.string a0, .int .i32 ((Utf8.decode a0 0).1 : Int)] rfl (by (try simp only [List.map_toArray, List.map_cons, List.map_nil]); first | done | rfl) ?_; (with_reducible refine (utf_value.calls _ _ _ _ hv.out).mono ?_); rintro e w' ⟨rfl, ⟨nd, rfl⟩⟩; refine ⟨_, rfl, ?_⟩))
    go_roundg 1
    case measure => omega
    case rel => exact ⟨(Utf8.decode a0 0).2, by rw [Nat.zero_add] at hit2'; exact (by simpa using hit2'.out), ⟨by repeat (first | exact HB.out | apply pw_below_drewN | apply below_drew1)⟩, rfl, .inr ⟨rfl, rfl, rfl, rfl, HP.out⟩⟩
   ·have hz : a0.size = 0 := by omega
    have hnx : ∀ ty, (Instr.next (.pointer (some ⟨w.heap.size, 0, none⟩)) true ty).run Try.prog wr = _ := fun ty => Lib.run_next_end_at wr w.heap.size a0 0 ty hit hp
    unfold utf_One.f at h
    rw [if_pos hz] at h
    obtain ⟨rfl, rfl⟩ := Prod.mk.inj (Option.some.inj h)
    clear h
    subst hk e4 e6
    have hz2 : (a0.size : Int) = 0 := by omega
    clear hp
    go_wp2
    go_ret2
    exact ⟨by first | rfl | (simp only [hz2]; done) | simp [hz2], HB.out⟩
  ·subst hpos
   unfold utf_One.f at h
   rw [if_neg (by omega)] at h
   obtain ⟨rfl, rfl⟩ := Prod.mk.inj (Option.some.inj h)
   clear h
   subst hk e4 e6
   by_cases hp : (Utf8.decode a0 0).2 < a0.size
   ·have hnx : ∀ ty, (Instr.next (.pointer (some ⟨w.heap.size, 0, none⟩)) true ty).run Try.prog wr = _ := fun ty => Lib.run_next_any_at wr w.heap.size a0 (Utf8.decode a0 0).2 ty hit hp
    have hbw2 := Lib.below_iterAt HB.out (k := w.heap.size) (Nat.le_refl _) a0 ((Utf8.decode a0 0).2 + (Utf8.decode a0 (Utf8.decode a0 0).2).2)
    obtain ⟨W1, hW1⟩ : ∃ W1, W1 = wr.iterAt w.heap.size a0 ((Utf8.decode a0 0).2 + (Utf8.decode a0 (Utf8.decode a0 0).2).2) := ⟨_, rfl⟩
    rw [← hW1] at hnx hbw2
    have HB := Aside0.mk hbw2
    clear hW1 hit hbw2 hp
    go_wp2
    go_ret2
    exact ⟨rfl, HB.out⟩
   ·have hnx : ∀ ty, (Instr.next (.pointer (some ⟨w.heap.size, 0, none⟩)) true ty).run Try.prog wr = _ := fun ty => Lib.run_next_end_at wr w.heap.size a0 (Utf8.decode a0 0).2 ty hit hp
    have hdl := utf_One.width a0 (by omega)
    have hz2 : (a0.size : Int) = ((Utf8.decode a0 0).2 : Int) := by omega
    clear hp hdl
    go_wp2
    go_ret2
    exact ⟨by first | rfl | (simp only [hz2]; done) | simp [hz2], HB.out⟩

-- NOT PRINTED: function 78 (abi_NoEscape)

-- NOT PRINTED: function 58 (strings_Builder_copyCheck)

/-! ### strings_Builder_WriteString: function 42 -/

/-! ### strings_Builder_String: function 43 -/
-- IMPORT Derived.Shelf.Strings.BuilderK
-- IMPORT Derived.Shelf.Strings.BuilderF
def builder_ren166 : Go.Shelf.Ren := ⟨fun | 166 => 42 | 240 => 58 | 276 => 78 | n => n, fun | 0 => 0 | 3 => 3 | 4 => 4 | 9 => 9 | 20 => 20 | 37 => 46 | 70 => 45 | 72 => 48 | 75 => 50 | 80 => 53 | 164 => 88 | 5 => 5 | n => n, fun n => n⟩
theorem builder_lays166 : Go.Proofs.Lays.n166 Try.prog builder_ren166 := {
 mixed := by kernel_rfl
 f166 := Try.func42.trans (congrArg some (by kernel_rfl))
 f240 := Try.func58.trans (congrArg some (by kernel_rfl))
 f276 := Try.func78.trans (congrArg some (by kernel_rfl))
 t0 := Try.underlying0
 a0 := Try.isAgg0
 z0 := Try.sizeOf0
 v0 := Try.zeroValue0
 t3 := Try.underlying3
 a3 := Try.isAgg3
 z3 := Try.sizeOf3
 v3 := Try.zeroValue3
 t4 := Try.underlying4
 a4 := Try.isAgg4
 z4 := Try.sizeOf4
 v4 := Try.zeroValue4
 t9 := Try.underlying9
 a9 := Try.isAgg9
 z9 := Try.sizeOf9
 v9 := Try.zeroValue9
 t20 := Try.underlying20
 a20 := Try.isAgg20
 z20 := Try.sizeOf20
 v20 := Try.zeroValue20
 t37 := Try.underlying46
 a37 := Try.isAgg46
 z37 := Try.sizeOf46
 v37 := Try.zeroValue46
 t70 := Try.underlying45
 a70 := Try.isAgg45
 z70 := Try.sizeOf45
 v70 := Try.zeroValue45
 t72 := Try.underlying48
 a72 := Try.isAgg48
 z72 := Try.sizeOf48
 v72 := Try.zeroValue48
 t75 := Try.underlying50
 a75 := Try.isAgg50
 z75 := Try.sizeOf50
 v75 := Try.zeroValue50
 t164 := Try.underlying88
 a164 := Try.isAgg88
 z164 := Try.sizeOf88
 v164 := Try.zeroValue88
}
theorem builder_extra166 : Builder.Extra Try.prog builder_ren166 := {
 sizeBuilder := by kernel_rfl
 liesBuilder := by kernel_rfl
 t5 := Try.underlying5
 a5 := Try.isAgg5
 z5 := Try.sizeOf5
 v5 := Try.zeroValue5
 infoByte := by kernel_rfl
 cellsByte := by kernel_rfl
 sizeByte := by kernel_rfl
 neB5 := by decide
}
def builder_ren169 : Go.Shelf.Ren := ⟨fun | 169 => 43 | n => n, fun | 0 => 0 | 3 => 3 | 9 => 9 | 37 => 46 | 70 => 45 | 72 => 48 | 127 => 68 | 5 => 5 | n => n, fun n => n⟩
theorem builder_lays169 : Go.Proofs.Lays.n169 Try.prog builder_ren169 := {
 mixed := by kernel_rfl
 f169 := Try.func43.trans (congrArg some (by kernel_rfl))
 t0 := Try.underlying0
 a0 := Try.isAgg0
 z0 := Try.sizeOf0
 v0 := Try.zeroValue0
 t3 := Try.underlying3
 a3 := Try.isAgg3
 z3 := Try.sizeOf3
 v3 := Try.zeroValue3
 t9 := Try.underlying9
 a9 := Try.isAgg9
 z9 := Try.sizeOf9
 v9 := Try.zeroValue9
 t37 := Try.underlying46
 a37 := Try.isAgg46
 z37 := Try.sizeOf46
 v37 := Try.zeroValue46
 t70 := Try.underlying45
 a70 := Try.isAgg45
 z70 := Try.sizeOf45
 v70 := Try.zeroValue45
 t72 := Try.underlying48
 a72 := Try.isAgg48
 z72 := Try.sizeOf48
 v72 := Try.zeroValue48
 t127 := Try.underlying68
 a127 := Try.isAgg68
 z127 := Try.sizeOf68
 v127 := Try.zeroValue68
}
theorem builder_extra169 : Builder.Extra Try.prog builder_ren169 := {
 sizeBuilder := by kernel_rfl
 liesBuilder := by kernel_rfl
 t5 := Try.underlying5
 a5 := Try.isAgg5
 z5 := Try.sizeOf5
 v5 := Try.zeroValue5
 infoByte := by kernel_rfl
 cellsByte := by kernel_rfl
 sizeByte := by kernel_rfl
 neB5 := by decide
}
/-- A builder of the call's own, in block b, holds the bytes l. -/
def Bld (b : Nat) (l : List UInt8) (w : World) : Prop := Lib.IsBuilderF 48 5 b b (Lib.byteCells l) w
theorem Bld.lt {b : Nat} {l : List UInt8} {w : World} (h : Bld b l w) : b < w.heap.size := by
 rcases h with h | h <;> exact h.lt
theorem Bld.below {b : Nat} {l : List UInt8} {w w' : World} (h : Bld b l w) (hb : Below w.heap.size w w') : Bld b l w' := by
 rcases h with ⟨h1, v, h2, h3, h4⟩ | ⟨h1, v, h2, h3, h4⟩
 ·exact .inl ⟨h1, v, (hb.block b (lt_of_block h2)).trans h2, h3.kept (grown_of_below hb none) (by cases v.ownBlock <;> simp), h4⟩
 ·exact .inr ⟨h1, v, (hb.block b (lt_of_block h2)).trans h2, h3.kept (grown_of_below hb none) (by cases v.ownBlock <;> simp), h4⟩
theorem Bld.start (w : World) : Bld w.heap.size [] (w.alloc (.cells #[.pointer none, .slice none 0 0] 48)) :=
 .inl ⟨Nat.le_refl _, .slice none 0 0, heap_alloc_new w _, World.ownsRowF_nil _ _ _ _, by simp [Value.ownBlock]⟩
theorem Bld.iter {b : Nat} {l : List UInt8} {w : World} (h : Bld b l w) {k : Nat} {s : ByteArray} {pos : Nat} (hk : w.heap[k]? = some (.stringIter s pos)) (q : Nat) : Bld b l (w.iterAt k s q) := Lib.IsBuilderF.iterAt h hk q
theorem Bld.write (b : Nat) (l : List UInt8) (s : ByteArray) (w : World) (h : Bld b l w) (hl : l.length + s.size ≤ 140737488355328) :
  Calls Try.prog 42 #[.pointer (some ⟨b, 0, none⟩), .string s] w fun e w' => e = .returned (.tuple #[.int .i64 s.size, .nilIface]) ∧ Bld b (l ++ s.data.toList) w' ∧ Below b w w' ∧ Lib.OthersKept 5 (some b) w w' := by
 refine (Any.Builder_WriteString_k builder_lays166 builder_extra166 b b (Lib.byteCells l) s w h (by simpa [Lib.byteCells] using hl) (Nat.le_of_lt h.lt)).mono ?_
 rintro e w' ⟨he, h1, h2, h3⟩
 refine ⟨he, .inr ?_, h2, h3⟩
 have : Lib.byteCells l ++ Lib.strCells s = Lib.byteCells (l ++ s.data.toList) := by simp [Lib.byteCells, Lib.strCells]
 rw [← this]
 exact h1
theorem Bld.string (b : Nat) (l : List UInt8) (w : World) (h : Bld b l w) :
  Calls Try.prog 43 #[.pointer (some ⟨b, 0, none⟩)] w fun e w' => e = .returned (.string ⟨l.toArray⟩) ∧ Below b w w' := by
 refine (Any.Builder_String_any_f builder_lays169 builder_extra169 b b l w h (Nat.le_of_lt h.lt)).mono ?_
 rintro e w' ⟨he, _, h2⟩
 exact ⟨he, h2⟩

/-! ### spoof_kept: function 21 -/
def spoof_kept.l (g : Int → Option ByteArray) (s : ByteArray) : Nat → Nat → Int → ByteArray → Option ByteArray
 | 0, _, _, _ => none
 | n + 1, p, past, acc => if p < s.size then (if (p : Int) ≥ past then (utf_One.f (s.extract p s.size)).bind fun y => (g y.1).bind fun t => (if acc.size + t.size ≤ 140737488355328 then spoof_kept.l g s n (p + (Utf8.decode s p).2) (wrap64 ((p : Int) + y.2)) (acc ++ t) else none) else spoof_kept.l g s n (p + (Utf8.decode s p).2) past acc) else some acc
def spoof_kept.f (g : Int → Option ByteArray) (s : ByteArray) : Option ByteArray := spoof_kept.l g s (s.size + 1) 0 0 ⟨#[]⟩
theorem spoof_kept.mono_l (g g' : Int → Option ByteArray) (hg : ∀ v, LeO (g v) (g' v)) (s : ByteArray) : ∀ n p past acc, LeO (spoof_kept.l g s n p past acc) (spoof_kept.l g' s n p past acc)
 | 0, _, _, _ => fun r h => by simp [spoof_kept.l] at h
 | n + 1, p, past, acc => by
  have ih0 := spoof_kept.mono_l g g' hg s n
  unfold spoof_kept.l
  repeat' first
   | (with_reducible exact ih0 _ _ _)
   | (with_reducible exact hg _)
   | (with_reducible exact LeO.refl _)
   | (with_reducible exact LeO.none _)
   | (with_reducible refine LeO.ite ?_ ?_)
   | (with_reducible refine LeO.bind ?_ (fun _ => ?_))
theorem spoof_kept.mono (g g' : Int → Option ByteArray) (hg : ∀ v, LeO (g v) (g' v)) (s : ByteArray) : LeO (spoof_kept.f g s) (spoof_kept.f g' s) := spoof_kept.mono_l g g' hg s _ _ _ _
/-- What stands in memory between the rounds: the builder, the text's place. -/
def spoof_kept.St (w W : World) (a0 : ByteArray) (pos : Nat) (acc : ByteArray) : Prop :=
 Bld w.heap.size acc.data.toList W ∧ W.heap[w.heap.size + 1]? = some (.stringIter a0 pos) ∧ Below w.heap.size w W
theorem spoof_kept.St.below {w W W' : World} {a0 : ByteArray} {pos : Nat} {acc : ByteArray} (h : spoof_kept.St w W a0 pos acc) (hb : Below W.heap.size W W') : spoof_kept.St w W' a0 pos acc := by
 obtain ⟨h1, h2, h3⟩ := h
 exact ⟨h1.below hb, (hb.block _ (lt_of_block h2)).trans h2, below_then h3 h3.size hb⟩
theorem spoof_kept.St.start (w : World) (a0 : ByteArray) : spoof_kept.St w ((w.alloc (.cells #[.pointer none, .slice none 0 0] 48)).alloc (.stringIter a0 0)) a0 0 ⟨#[]⟩ := by
 refine ⟨(Bld.start w).below ((Below.refl _ _).alloc (Nat.le_refl _) _), ?_, ((Below.refl _ w).alloc (Nat.le_refl _) _).alloc (by simp) _⟩
 have := heap_alloc_new (w.alloc (.cells #[.pointer none, .slice none 0 0] 48)) (.stringIter a0 0)
 simpa using this
theorem spoof_kept.St.next {w W : World} {a0 : ByteArray} {pos : Nat} {acc : ByteArray} (h : spoof_kept.St w W a0 pos acc) (q : Nat) : spoof_kept.St w (W.iterAt (w.heap.size + 1) a0 q) a0 q acc := by
 obtain ⟨h1, h2, h3⟩ := h
 exact ⟨h1.iter h2 q, Lib.iterAt_heap W (w.heap.size + 1) a0 pos q h2, Lib.below_iterAt h3 (k := w.heap.size + 1) (Nat.le_succ _) a0 q⟩
theorem spoof_kept.write (w W : World) (a0 : ByteArray) (pos : Nat) (acc t : ByteArray) (h : spoof_kept.St w W a0 pos acc) (hl : acc.size + t.size ≤ 140737488355328) :
  Calls Try.prog 42 #[.pointer (some ⟨w.heap.size, 0, none⟩), .string t] W fun e w' => e = .returned (.tuple #[.int .i64 t.size, .nilIface]) ∧ spoof_kept.St w w' a0 pos (acc ++ t) := by
 obtain ⟨h1, h2, h3⟩ := h
 refine (Bld.write w.heap.size acc.data.toList t W h1 hl).mono ?_
 rintro e w' ⟨he, g1, g2, g3⟩
 refine ⟨he, ?_, g3 _ _ h2 (by simp) (fun c fz hc => by cases hc), h3.trans g2⟩
 have : (acc ++ t).data.toList = acc.data.toList ++ t.data.toList := by rw [ByteArray.data_append, Array.toList_append]
 rw [this]
 exact g1
set_option maxHeartbeats 8000000 in
set_option maxRecDepth 100000 in
theorem spoof_kept.calls (g : Int → Option ByteArray) (gv : Nat) (eg : ∀ args w, (callFunc gv args).run Try.prog w = .ok (.enter gv args) w) (hg : ∀ (W : World) (v : Int) (t : ByteArray), g v = some t → Calls Try.prog gv #[.int .i64 v] W fun e w' => e = .returned (.string t) ∧ Below W.heap.size W w')
  (a0 : ByteArray) (r : ByteArray) (w : World) (h : spoof_kept.f g a0 = some r) :
  Calls Try.prog 21 #[.string a0, .func (.func gv) #[] #[]] w fun e w' => e = .returned (.string r) ∧ Below w.heap.size w w' := by
 unfold spoof_kept.f at h
 have H0 := Aside0.mk h
 have HG := Aside0.mk hg
 have hbt := Try.underlying48
 clear h hg
 go_enter Try.func21, Try.ntmps21
 go_wp2
 go_loopg [6] (a0.size + 1) (fun gg v6 wr => ∃ (n pos : Nat) (past : Int) (acc : ByteArray), n ≤ gg ∧ v6 = .int .i64 past ∧ Aside0 (spoof_kept.St w wr a0 pos acc) ∧ Aside0 (spoof_kept.l g a0 n pos past acc = some r))
 case atStart => exact ⟨a0.size + 1, 0, 0, ⟨#[]⟩, Nat.le_refl _, rfl, ⟨spoof_kept.St.start w a0⟩, H0⟩
 case round =>
  clear H0
  obtain ⟨n, pos, past, acc, hn, rfl, HS, HA⟩ := hrel
  cases n with
  | zero => exact absurd HA.out (by simp [spoof_kept.l])
  | succ n =>
  have h := HA.out
  clear HA
  simp only [spoof_kept.l] at h
  have hit := HS.out.2.1
  have HN := Aside0.mk hn
  clear hn
  by_cases hp : pos < a0.size
  ·rw [if_pos hp] at h
   have hnx : ∀ ty, (Instr.next (.pointer (some ⟨w.heap.size + 1, 0, none⟩)) true ty).run Try.prog wr = _ := fun ty => Lib.run_next_any_at wr (w.heap.size + 1) a0 pos ty hit hp
   have HS1 := HS.out.next (pos + (Utf8.decode a0 pos).2)
   obtain ⟨W1, hW1⟩ : ∃ W1, W1 = wr.iterAt (w.heap.size + 1) a0 (pos + (Utf8.decode a0 pos).2) := ⟨_, rfl⟩
   rw [← hW1] at hnx HS1
   clear hW1 HS hit
   have HS := Aside0.mk HS1
   clear HS1
   have hdl := decode_le a0 pos
   by_cases c2 : (pos : Int) ≥ past
   ·rw [if_pos c2] at h
    obtain ⟨⟨y1, y2⟩, hy, h⟩ := Option.bind_eq_some_iff.mp h
    simp only at h
    obtain ⟨t, ht, h⟩ := Option.bind_eq_some_iff.mp h
    by_cases c5 : acc.size + t.size ≤ 140737488355328
    ·rw [if_pos c5] at h
     have HA := Aside0.mk h
     have HY := Aside0.mk (fun W => utf_One.calls (a0.extract pos a0.size) y1 y2 W hy)
     have HT := Aside0.mk (fun W => HG.out W y1 t ht)
     have HL := Aside0.mk c5
     clear h hy ht c5
     go_wp2_with fail
     refine (HY.out _).mono ?_
     rintro e w3 ⟨rfl, hb3⟩
     have HS3 := Aside0.mk (HS.out.below hb3)
     clear HY hnx HS hb3
     go_wp2_with fail
     refine (HT.out _).mono ?_
     rintro e w4 ⟨rfl, hb4⟩
     have HS4 := Aside0.mk (HS3.out.below hb4)
     clear HT HS3 hb4
     go_wp2_with fail
     refine (spoof_kept.write w w4 a0 _ acc t HS4.out HL.out).mono ?_
     rintro e w5 ⟨rfl, hS5⟩
     have HS5 := Aside0.mk hS5
     clear HS4 hS5
     go_wp2_with fail
     go_roundg n
     case measure => have := HN.out; omega
     case rel => exact ⟨n, _, _, _, Nat.le_refl _, rfl, HS5, HA⟩
    ·rw [if_neg c5] at h; cases h
   ·rw [if_neg c2] at h
    have HA := Aside0.mk h
    clear h
    go_wp2_with fail
    go_roundg n
    case measure => have := HN.out; omega
    case rel => exact ⟨n, _, past, acc, Nat.le_refl _, rfl, HS, HA⟩
  ·rw [if_neg hp] at h
   obtain rfl := Option.some.inj h
   clear h
   have hnx : ∀ ty, (Instr.next (.pointer (some ⟨w.heap.size + 1, 0, none⟩)) true ty).run Try.prog wr = _ := fun ty => Lib.run_next_end_at wr (w.heap.size + 1) a0 pos ty hit hp
   have HF := Aside0.mk (Bld.string w.heap.size acc.data.toList wr HS.out.1)
   have HB := Aside0.mk HS.out.2.2
   clear HS hit
   go_wp2_with fail
   refine HF.out.mono ?_
   rintro e w3 ⟨rfl, hb3⟩
   clear HF hnx
   go_wp2_with fail
   go_ret
   exact ⟨rfl, HB.out.trans hb3⟩

/-! ### class_looks: function 49 -/
def class_looks.f  : Option ((List (S60))) := some (([(⟨913, 65⟩ : S60), (⟨914, 66⟩ : S60), (⟨917, 69⟩ : S60), (⟨918, 90⟩ : S60), (⟨919, 72⟩ : S60), (⟨921, 73⟩ : S60), (⟨922, 75⟩ : S60), (⟨924, 77⟩ : S60), (⟨925, 78⟩ : S60), (⟨927, 79⟩ : S60), (⟨929, 80⟩ : S60), (⟨932, 84⟩ : S60), (⟨933, 89⟩ : S60), (⟨935, 88⟩ : S60), (⟨957, 118⟩ : S60), (⟨959, 111⟩ : S60), (⟨961, 112⟩ : S60), (⟨1029, 83⟩ : S60), (⟨1030, 73⟩ : S60), (⟨1032, 74⟩ : S60), (⟨1040, 65⟩ : S60), (⟨1042, 66⟩ : S60), (⟨1045, 69⟩ : S60), (⟨1050, 75⟩ : S60), (⟨1052, 77⟩ : S60), (⟨1053, 72⟩ : S60), (⟨1054, 79⟩ : S60), (⟨1056, 80⟩ : S60), (⟨1057, 67⟩ : S60), (⟨1058, 84⟩ : S60), (⟨1061, 88⟩ : S60), (⟨1072, 97⟩ : S60), (⟨1077, 101⟩ : S60), (⟨1086, 111⟩ : S60), (⟨1088, 112⟩ : S60), (⟨1089, 99⟩ : S60), (⟨1091, 121⟩ : S60), (⟨1093, 120⟩ : S60), (⟨1109, 115⟩ : S60), (⟨1110, 105⟩ : S60), (⟨1112, 106⟩ : S60), (⟨1281, 100⟩ : S60), (⟨1307, 113⟩ : S60), (⟨1309, 119⟩ : S60), (⟨894, 59⟩ : S60), (⟨8208, 45⟩ : S60), (⟨8722, 45⟩ : S60), (⟨8260, 47⟩ : S60), (⟨8725, 47⟩ : S60), (⟨8228, 46⟩ : S60), (⟨8218, 44⟩ : S60)] : List (S60)))
set_option maxHeartbeats 8000000 in
set_option maxRecDepth 100000 in
theorem class_looks.calls  (r : List (S60)) (w : World) (h : class_looks.f  = some r) :
  Calls Try.prog 49 #[] w fun e w' => ∃ v0_ : Value, e = .returned (v0_) ∧ Kd.R k60 60 w' w.heap.size (fun _ => True) v0_ r ∧ Below w.heap.size w w' := by
 have hu60 := Try.underlying60
 have HB := Aside0.mk (Below.refl w.heap.size w)
 have H : (some (([(⟨913, 65⟩ : S60), (⟨914, 66⟩ : S60), (⟨917, 69⟩ : S60), (⟨918, 90⟩ : S60), (⟨919, 72⟩ : S60), (⟨921, 73⟩ : S60), (⟨922, 75⟩ : S60), (⟨924, 77⟩ : S60), (⟨925, 78⟩ : S60), (⟨927, 79⟩ : S60), (⟨929, 80⟩ : S60), (⟨932, 84⟩ : S60), (⟨933, 89⟩ : S60), (⟨935, 88⟩ : S60), (⟨957, 118⟩ : S60), (⟨959, 111⟩ : S60), (⟨961, 112⟩ : S60), (⟨1029, 83⟩ : S60), (⟨1030, 73⟩ : S60), (⟨1032, 74⟩ : S60), (⟨1040, 65⟩ : S60), (⟨1042, 66⟩ : S60), (⟨1045, 69⟩ : S60), (⟨1050, 75⟩ : S60), (⟨1052, 77⟩ : S60), (⟨1053, 72⟩ : S60), (⟨1054, 79⟩ : S60), (⟨1056, 80⟩ : S60), (⟨1057, 67⟩ : S60), (⟨1058, 84⟩ : S60), (⟨1061, 88⟩ : S60), (⟨1072, 97⟩ : S60), (⟨1077, 101⟩ : S60), (⟨1086, 111⟩ : S60), (⟨1088, 112⟩ : S60), (⟨1089, 99⟩ : S60), (⟨1091, 121⟩ : S60), (⟨1093, 120⟩ : S60), (⟨1109, 115⟩ : S60), (⟨1110, 105⟩ : S60), (⟨1112, 106⟩ : S60), (⟨1281, 100⟩ : S60), (⟨1307, 113⟩ : S60), (⟨1309, 119⟩ : S60), (⟨894, 59⟩ : S60), (⟨8208, 45⟩ : S60), (⟨8722, 45⟩ : S60), (⟨8260, 47⟩ : S60), (⟨8725, 47⟩ : S60), (⟨8228, 46⟩ : S60), (⟨8218, 44⟩ : S60)] : List (S60)))) = some r := h
 clear h
 obtain ⟨y103, hy103⟩ : ∃ y_ : List (S60), y_ = (([(⟨913, 65⟩ : S60), (⟨914, 66⟩ : S60), (⟨917, 69⟩ : S60), (⟨918, 90⟩ : S60), (⟨919, 72⟩ : S60), (⟨921, 73⟩ : S60), (⟨922, 75⟩ : S60), (⟨924, 77⟩ : S60), (⟨925, 78⟩ : S60), (⟨927, 79⟩ : S60), (⟨929, 80⟩ : S60), (⟨932, 84⟩ : S60), (⟨933, 89⟩ : S60), (⟨935, 88⟩ : S60), (⟨957, 118⟩ : S60), (⟨959, 111⟩ : S60), (⟨961, 112⟩ : S60), (⟨1029, 83⟩ : S60), (⟨1030, 73⟩ : S60), (⟨1032, 74⟩ : S60), (⟨1040, 65⟩ : S60), (⟨1042, 66⟩ : S60), (⟨1045, 69⟩ : S60), (⟨1050, 75⟩ : S60), (⟨1052, 77⟩ : S60), (⟨1053, 72⟩ : S60), (⟨1054, 79⟩ : S60), (⟨1056, 80⟩ : S60), (⟨1057, 67⟩ : S60), (⟨1058, 84⟩ : S60), (⟨1061, 88⟩ : S60), (⟨1072, 97⟩ : S60), (⟨1077, 101⟩ : S60), (⟨1086, 111⟩ : S60), (⟨1088, 112⟩ : S60), (⟨1089, 99⟩ : S60), (⟨1091, 121⟩ : S60), (⟨1093, 120⟩ : S60), (⟨1109, 115⟩ : S60), (⟨1110, 105⟩ : S60), (⟨1112, 106⟩ : S60), (⟨1281, 100⟩ : S60), (⟨1307, 113⟩ : S60), (⟨1309, 119⟩ : S60), (⟨894, 59⟩ : S60), (⟨8208, 45⟩ : S60), (⟨8722, 45⟩ : S60), (⟨8260, 47⟩ : S60), (⟨8725, 47⟩ : S60), (⟨8228, 46⟩ : S60), (⟨8218, 44⟩ : S60)] : List (S60))) := ⟨_, rfl⟩
 replace H : (some y103) = some r := by first | (rw [hy103]; with_reducible exact H) | (have H2_ := (Option.bind_some _ _).symm.trans H; rw [hy103]; with_reducible exact H2_) | (have H2_ := (Option.bind_some _ _).symm.trans H; with_reducible exact H2_) | with_reducible exact H | (rw [hy103]; exact H) | exact H
 have Ny103 := Aside0.mk hy103
 clear hy103
 obtain rfl := Option.some.inj H
 go_enter Try.func49, Try.ntmps49
 go_wp2_with (first | ((with_reducible refine gate_dst (N := 52) rfl ?_); refine Kd.R_lit k60 _ 60 ?hg (N := 52) ?hd (xs := ([(⟨913, 65⟩ : S60), (⟨914, 66⟩ : S60), (⟨917, 69⟩ : S60), (⟨918, 90⟩ : S60), (⟨919, 72⟩ : S60), (⟨921, 73⟩ : S60), (⟨922, 75⟩ : S60), (⟨924, 77⟩ : S60), (⟨925, 78⟩ : S60), (⟨927, 79⟩ : S60), (⟨929, 80⟩ : S60), (⟨932, 84⟩ : S60), (⟨933, 89⟩ : S60), (⟨935, 88⟩ : S60), (⟨957, 118⟩ : S60), (⟨959, 111⟩ : S60), (⟨961, 112⟩ : S60), (⟨1029, 83⟩ : S60), (⟨1030, 73⟩ : S60), (⟨1032, 74⟩ : S60), (⟨1040, 65⟩ : S60), (⟨1042, 66⟩ : S60), (⟨1045, 69⟩ : S60), (⟨1050, 75⟩ : S60), (⟨1052, 77⟩ : S60), (⟨1053, 72⟩ : S60), (⟨1054, 79⟩ : S60), (⟨1056, 80⟩ : S60), (⟨1057, 67⟩ : S60), (⟨1058, 84⟩ : S60), (⟨1061, 88⟩ : S60), (⟨1072, 97⟩ : S60), (⟨1077, 101⟩ : S60), (⟨1086, 111⟩ : S60), (⟨1088, 112⟩ : S60), (⟨1089, 99⟩ : S60), (⟨1091, 121⟩ : S60), (⟨1093, 120⟩ : S60), (⟨1109, 115⟩ : S60), (⟨1110, 105⟩ : S60), (⟨1112, 106⟩ : S60), (⟨1281, 100⟩ : S60), (⟨1307, 113⟩ : S60), (⟨1309, 119⟩ : S60), (⟨894, 59⟩ : S60), (⟨8208, 45⟩ : S60), (⟨8722, 45⟩ : S60), (⟨8260, 47⟩ : S60), (⟨8725, 47⟩ : S60), (⟨8228, 46⟩ : S60), (⟨8218, 44⟩ : S60)] : List (S60))) (inner := [.int .i64 913, .int .i64 65, .int .i64 914, .int .i64 66, .int .i64 917, .int .i64 69, .int .i64 918, .int .i64 90, .int .i64 919, .int .i64 72, .int .i64 921, .int .i64 73, .int .i64 922, .int .i64 75, .int .i64 924, .int .i64 77, .int .i64 925, .int .i64 78, .int .i64 927, .int .i64 79, .int .i64 929, .int .i64 80, .int .i64 932, .int .i64 84, .int .i64 933, .int .i64 89, .int .i64 935, .int .i64 88, .int .i64 957, .int .i64 118, .int .i64 959, .int .i64 111, .int .i64 961, .int .i64 112, .int .i64 1029, .int .i64 83, .int .i64 1030, .int .i64 73, .int .i64 1032, .int .i64 74, .int .i64 1040, .int .i64 65, .int .i64 1042, .int .i64 66, .int .i64 1045, .int .i64 69, .int .i64 1050, .int .i64 75, .int .i64 1052, .int .i64 77, .int .i64 1053, .int .i64 72, .int .i64 1054, .int .i64 79, .int .i64 1056, .int .i64 80, .int .i64 1057, .int .i64 67, .int .i64 1058, .int .i64 84, .int .i64 1061, .int .i64 88, .int .i64 1072, .int .i64 97, .int .i64 1077, .int .i64 101, .int .i64 1086, .int .i64 111, .int .i64 1088, .int .i64 112, .int .i64 1089, .int .i64 99, .int .i64 1091, .int .i64 121, .int .i64 1093, .int .i64 120, .int .i64 1109, .int .i64 115, .int .i64 1110, .int .i64 105, .int .i64 1112, .int .i64 106, .int .i64 1281, .int .i64 100, .int .i64 1307, .int .i64 113, .int .i64 1309, .int .i64 119, .int .i64 894, .int .i64 59, .int .i64 8208, .int .i64 45, .int .i64 8722, .int .i64 45, .int .i64 8260, .int .i64 47, .int .i64 8725, .int .i64 47, .int .i64 8228, .int .i64 46, .int .i64 8218, .int .i64 44]) (ok := fun _ => True) (okp := fun _ => True) ?hr ?hp (fun _ hk => hk) trivial (Below.refl _ _) (Nat.le_refl _) (by simp) ?_; (case hd => rfl); (case hg => rfl); (case hr => first | (go_simp; done) | (go_simp; rfl)); (case hp => exact (Reps.c2 (show Kd.M k60 _ _ _ (⟨913, 65⟩ : S60) [.int .i64 913, .int .i64 65] from (k60_mkM _ _ _ (⟨913, 65⟩ : S60) )) (Reps.c2 (show Kd.M k60 _ _ _ (⟨914, 66⟩ : S60) [.int .i64 914, .int .i64 66] from (k60_mkM _ _ _ (⟨914, 66⟩ : S60) )) (Reps.c2 (show Kd.M k60 _ _ _ (⟨917, 69⟩ : S60) [.int .i64 917, .int .i64 69] from (k60_mkM _ _ _ (⟨917, 69⟩ : S60) )) (Reps.c2 (show Kd.M k60 _ _ _ (⟨918, 90⟩ : S60) [.int .i64 918, .int .i64 90] from (k60_mkM _ _ _ (⟨918, 90⟩ : S60) )) (Reps.c2 (show Kd.M k60 _ _ _ (⟨919, 72⟩ : S60) [.int .i64 919, .int .i64 72] from (k60_mkM _ _ _ (⟨919, 72⟩ : S60) )) (Reps.c2 (show Kd.M k60 _ _ _ (⟨921, 73⟩ : S60) [.int .i64 921, .int .i64 73] from (k60_mkM _ _ _ (⟨921, 73⟩ : S60) )) (Reps.c2 (show Kd.M k60 _ _ _ (⟨922, 75⟩ : S60) [.int .i64 922, .int .i64 75] from (k60_mkM _ _ _ (⟨922, 75⟩ : S60) )) (Reps.c2 (show Kd.M k60 _ _ _ (⟨924, 77⟩ : S60) [.int .i64 924, .int .i64 77] from (k60_mkM _ _ _ (⟨924, 77⟩ : S60) )) (Reps.c2 (show Kd.M k60 _ _ _ (⟨925, 78⟩ : S60) [.int .i64 925, .int .i64 78] from (k60_mkM _ _ _ (⟨925, 78⟩ : S60) )) (Reps.c2 (show Kd.M k60 _ _ _ (⟨927, 79⟩ : S60) [.int .i64 927, .int .i64 79] from (k60_mkM _ _ _ (⟨927, 79⟩ : S60) )) (Reps.c2 (show Kd.M k60 _ _ _ (⟨929, 80⟩ : S60) [.int .i64 929, .int .i64 80] from (k60_mkM _ _ _ (⟨929, 80⟩ : S60) )) (Reps.c2 (show Kd.M k60 _ _ _ (⟨932, 84⟩ : S60) [.int .i64 932, .int .i64 84] from (k60_mkM _ _ _ (⟨932, 84⟩ : S60) )) (Reps.c2 (show Kd.M k60 _ _ _ (⟨933, 89⟩ : S60) [.int .i64 933, .int .i64 89] from (k60_mkM _ _ _ (⟨933, 89⟩ : S60) )) (Reps.c2 (show Kd.M k60 _ _ _ (⟨935, 88⟩ : S60) [.int .i64 935, .int .i64 88] from (k60_mkM _ _ _ (⟨935, 88⟩ : S60) )) (Reps.c2 (show Kd.M k60 _ _ _ (⟨957, 118⟩ : S60) [.int .i64 957, .int .i64 118] from (k60_mkM _ _ _ (⟨957, 118⟩ : S60) )) (Reps.c2 (show Kd.M k60 _ _ _ (⟨959, 111⟩ : S60) [.int .i64 959, .int .i64 111] from (k60_mkM _ _ _ (⟨959, 111⟩ : S60) )) (Reps.c2 (show Kd.M k60 _ _ _ (⟨961, 112⟩ : S60) [.int .i64 961, .int .i64 112] from (k60_mkM _ _ _ (⟨961, 112⟩ : S60) )) (Reps.c2 (show Kd.M k60 _ _ _ (⟨1029, 83⟩ : S60) [.int .i64 1029, .int .i64 83] from (k60_mkM _ _ _ (⟨1029, 83⟩ : S60) )) (Reps.c2 (show Kd.M k60 _ _ _ (⟨1030, 73⟩ : S60) [.int .i64 1030, .int .i64 73] from (k60_mkM _ _ _ (⟨1030, 73⟩ : S60) )) (Reps.c2 (show Kd.M k60 _ _ _ (⟨1032, 74⟩ : S60) [.int .i64 1032, .int .i64 74] from (k60_mkM _ _ _ (⟨1032, 74⟩ : S60) )) (Reps.c2 (show Kd.M k60 _ _ _ (⟨1040, 65⟩ : S60) [.int .i64 1040, .int .i64 65] from (k60_mkM _ _ _ (⟨1040, 65⟩ : S60) )) (Reps.c2 (show Kd.M k60 _ _ _ (⟨1042, 66⟩ : S60) [.int .i64 1042, .int .i64 66] from (k60_mkM _ _ _ (⟨1042, 66⟩ : S60) )) (Reps.c2 (show Kd.M k60 _ _ _ (⟨1045, 69⟩ : S60) [.int .i64 1045, .int .i64 69] from (k60_mkM _ _ _ (⟨1045, 69⟩ : S60) )) (Reps.c2 (show Kd.M k60 _ _ _ (⟨1050, 75⟩ : S60) [.int .i64 1050, .int .i64 75] from (k60_mkM _ _ _ (⟨1050, 75⟩ : S60) )) (Reps.c2 (show Kd.M k60 _ _ _ (⟨1052, 77⟩ : S60) [.int .i64 1052, .int .i64 77] from (k60_mkM _ _ _ (⟨1052, 77⟩ : S60) )) (Reps.c2 (show Kd.M k60 _ _ _ (⟨1053, 72⟩ : S60) [.int .i64 1053, .int .i64 72] from (k60_mkM _ _ _ (⟨1053, 72⟩ : S60) )) (Reps.c2 (show Kd.M k60 _ _ _ (⟨1054, 79⟩ : S60) [.int .i64 1054, .int .i64 79] from (k60_mkM _ _ _ (⟨1054, 79⟩ : S60) )) (Reps.c2 (show Kd.M k60 _ _ _ (⟨1056, 80⟩ : S60) [.int .i64 1056, .int .i64 80] from (k60_mkM _ _ _ (⟨1056, 80⟩ : S60) )) (Reps.c2 (show Kd.M k60 _ _ _ (⟨1057, 67⟩ : S60) [.int .i64 1057, .int .i64 67] from (k60_mkM _ _ _ (⟨1057, 67⟩ : S60) )) (Reps.c2 (show Kd.M k60 _ _ _ (⟨1058, 84⟩ : S60) [.int .i64 1058, .int .i64 84] from (k60_mkM _ _ _ (⟨1058, 84⟩ : S60) )) (Reps.c2 (show Kd.M k60 _ _ _ (⟨1061, 88⟩ : S60) [.int .i64 1061, .int .i64 88] from (k60_mkM _ _ _ (⟨1061, 88⟩ : S60) )) (Reps.c2 (show Kd.M k60 _ _ _ (⟨1072, 97⟩ : S60) [.int .i64 1072, .int .i64 97] from (k60_mkM _ _ _ (⟨1072, 97⟩ : S60) )) (Reps.c2 (show Kd.M k60 _ _ _ (⟨1077, 101⟩ : S60) [.int .i64 1077, .int .i64 101] from (k60_mkM _ _ _ (⟨1077, 101⟩ : S60) )) (Reps.c2 (show Kd.M k60 _ _ _ (⟨1086, 111⟩ : S60) [.int .i64 1086, .int .i64 111] from (k60_mkM _ _ _ (⟨1086, 111⟩ : S60) )) (Reps.c2 (show Kd.M k60 _ _ _ (⟨1088, 112⟩ : S60) [.int .i64 1088, .int .i64 112] from (k60_mkM _ _ _ (⟨1088, 112⟩ : S60) )) (Reps.c2 (show Kd.M k60 _ _ _ (⟨1089, 99⟩ : S60) [.int .i64 1089, .int .i64 99] from (k60_mkM _ _ _ (⟨1089, 99⟩ : S60) )) (Reps.c2 (show Kd.M k60 _ _ _ (⟨1091, 121⟩ : S60) [.int .i64 1091, .int .i64 121] from (k60_mkM _ _ _ (⟨1091, 121⟩ : S60) )) (Reps.c2 (show Kd.M k60 _ _ _ (⟨1093, 120⟩ : S60) [.int .i64 1093, .int .i64 120] from (k60_mkM _ _ _ (⟨1093, 120⟩ : S60) )) (Reps.c2 (show Kd.M k60 _ _ _ (⟨1109, 115⟩ : S60) [.int .i64 1109, .int .i64 115] from (k60_mkM _ _ _ (⟨1109, 115⟩ : S60) )) (Reps.c2 (show Kd.M k60 _ _ _ (⟨1110, 105⟩ : S60) [.int .i64 1110, .int .i64 105] from (k60_mkM _ _ _ (⟨1110, 105⟩ : S60) )) (Reps.c2 (show Kd.M k60 _ _ _ (⟨1112, 106⟩ : S60) [.int .i64 1112, .int .i64 106] from (k60_mkM _ _ _ (⟨1112, 106⟩ : S60) )) (Reps.c2 (show Kd.M k60 _ _ _ (⟨1281, 100⟩ : S60) [.int .i64 1281, .int .i64 100] from (k60_mkM _ _ _ (⟨1281, 100⟩ : S60) )) (Reps.c2 (show Kd.M k60 _ _ _ (⟨1307, 113⟩ : S60) [.int .i64 1307, .int .i64 113] from (k60_mkM _ _ _ (⟨1307, 113⟩ : S60) )) (Reps.c2 (show Kd.M k60 _ _ _ (⟨1309, 119⟩ : S60) [.int .i64 1309, .int .i64 119] from (k60_mkM _ _ _ (⟨1309, 119⟩ : S60) )) (Reps.c2 (show Kd.M k60 _ _ _ (⟨894, 59⟩ : S60) [.int .i64 894, .int .i64 59] from (k60_mkM _ _ _ (⟨894, 59⟩ : S60) )) (Reps.c2 (show Kd.M k60 _ _ _ (⟨8208, 45⟩ : S60) [.int .i64 8208, .int .i64 45] from (k60_mkM _ _ _ (⟨8208, 45⟩ : S60) )) (Reps.c2 (show Kd.M k60 _ _ _ (⟨8722, 45⟩ : S60) [.int .i64 8722, .int .i64 45] from (k60_mkM _ _ _ (⟨8722, 45⟩ : S60) )) (Reps.c2 (show Kd.M k60 _ _ _ (⟨8260, 47⟩ : S60) [.int .i64 8260, .int .i64 47] from (k60_mkM _ _ _ (⟨8260, 47⟩ : S60) )) (Reps.c2 (show Kd.M k60 _ _ _ (⟨8725, 47⟩ : S60) [.int .i64 8725, .int .i64 47] from (k60_mkM _ _ _ (⟨8725, 47⟩ : S60) )) (Reps.c2 (show Kd.M k60 _ _ _ (⟨8228, 46⟩ : S60) [.int .i64 8228, .int .i64 46] from (k60_mkM _ _ _ (⟨8228, 46⟩ : S60) )) (Reps.c2 (show Kd.M k60 _ _ _ (⟨8218, 44⟩ : S60) [.int .i64 8218, .int .i64 44] from (k60_mkM _ _ _ (⟨8218, 44⟩ : S60) )) (Reps.none _ _))))))))))))))))))))))))))))))))))))))))))))))))))))); intro v104 w1 ho2 hb hg_ hnew_; clear hg_ hnew_; (first | rw [← Ny103.out] at ho2 | (simp only [Int.reduceToNat] at ho2; rw [← Ny103.out] at ho2)); have n0_ := Aside0.mk (Kd.R_lower ho2 (below_size zb)); have n1_ := Aside0.mk (below_step zb hb); clear HB; have HO105 := n0_; have HB := n1_; clear n0_ n1_; clear hb ho2))
 go_ret
 exact ⟨_, zr, by (with_reducible repeat (first | apply Kd.R_alloc | apply Kd.R_drewN | apply Kd.R_drew)); exact HO105.out, by repeat (first | (with_reducible first | exact HB.out | apply below_alloc | apply pw_below_drewN | apply below_drew1) | exact HB.out)⟩

/-! ### class_look: function 50 -/
def idx_look.g (p : S60 → Bool) : List S60 → Nat → Int
 | [], _ => -1
 | x :: xs, i => if p x = true then (i : Int) else idx_look.g p xs (i + 1)
theorem idx_look.g_drop (p : S60 → Bool) (l : List S60) (k : Nat) (h : k < l.length) : idx_look.g p (l.drop k) k = if p (rd_T60 l (k : Int)) = true then (k : Int) else idx_look.g p (l.drop (k + 1)) (k + 1) := by
 rw [List.drop_eq_getElem_cons h]
 have e : rd_T60 l (k : Int) = l[k] := by
  unfold rd_T60
  rw [Int.toNat_natCast, List.getD_eq_getElem?_getD, List.getElem?_eq_getElem h]
  rfl
 rw [e]
 rfl
theorem idx_look.mem (l : List S60) (k : Nat) (h : k < l.length) : rd_T60 l (k : Int) ∈ l := by
 have e : rd_T60 l (k : Int) = l[k] := by
  unfold rd_T60
  rw [Int.toNat_natCast, List.getD_eq_getElem?_getD, List.getElem?_eq_getElem h]
  rfl
 rw [e]
 exact List.getElem_mem h
theorem idx_look.g_ge (p : S60 → Bool) (l : List S60) : ∀ i : Nat, decide (idx_look.g p l i ≥ 0) = l.any p := by
 induction l with
 | nil => intro i; rfl
 | cons x xs ih =>
  intro i
  by_cases h : p x = true
  ·simp only [idx_look.g, if_pos h, List.any_cons, h, Bool.true_or]
   exact decide_eq_true (by omega : (i : Int) ≥ 0)
  ·simp only [idx_look.g, if_neg h, List.any_cons, ih (i + 1)]
   simp [h]
theorem idx_look.g_lt (p : S60 → Bool) (l : List S60) : ∀ i : Nat, idx_look.g p l i < (i : Int) + (l.length : Int) ∨ idx_look.g p l i = -1 := by
 induction l with
 | nil => intro i; exact .inr rfl
 | cons x xs ih =>
  intro i
  unfold idx_look.g
  split
  ·left; simp only [List.length_cons]; omega
  ·rcases ih (i + 1) with h | h
   ·left; simp only [List.length_cons]; omega
   ·exact .inr h
set_option maxHeartbeats 8000000 in
set_option maxRecDepth 100000 in
theorem idx_look.calls (p : S60 → Bool) (g : Nat) (lb : Array Value) (eg : ∀ args w, (callFunc g args).run Try.prog w = .ok (.enter g args) w)
  (A1 : Option Addr) (c1 : Nat) (l1 : List S60) (w : World) (hr1 : Kd.C k60 w A1 l1.length l1) (hl1 : l1.length < 9223372036854775807)
  (hp : ∀ (W : World) (x : S60), x ∈ l1 → Below w.heap.size w W → Calls Try.prog g (#[.agg #[.int .i64 x.f0, .int .i64 x.f1]] ++ lb) W fun e w' => e = .returned (.bool (p x)) ∧ Below W.heap.size W w') :
  Calls Try.prog 50 #[.slice A1 l1.length c1, .func (.func g) #[] lb] w fun e w' => e = .returned (.int .i64 (idx_look.g p l1 0)) ∧ Below w.heap.size w w' := by
 have hu60 := Try.underlying60
 have HR1 := Aside0.mk hr1
 have HP := Aside0.mk hp
 clear hr1 hp
 generalize hn : l1.length = n at hl1 HR1 ⊢
 have HN := Aside0.mk hn
 clear hn
 go_enter Try.func50, Try.ntmps50
 go_wp2
 go_loopg [5, 8] n (fun gg _ s8 wr => ∃ kk : Nat, kk ≤ n ∧ n - kk ≤ gg ∧ s8 = .int .i64 kk ∧ Aside0 (Below w.heap.size w wr) ∧ Aside0 (idx_look.g p (l1.drop kk) kk = idx_look.g p l1 0))
 case atStart => exact ⟨0, Nat.zero_le _, by omega, rfl, ⟨Below.refl _ w⟩, ⟨by simp⟩⟩
 case round =>
  obtain ⟨kk, hkk, hg, rfl, BW, A⟩ := hrel
  by_cases hlt : kk < n
  ·have hltz : (kk : Int) < (n : Int) := by omega
   have hlen : kk < l1.length := by rw [HN.out]; exact hlt
   obtain ⟨ad, e0, hx0, hx1⟩ := at_T60 (Kd.C_below HR1.out BW.out) (kk : Int) (by omega) (by omega)
   cases e0
   have hgd := idx_look.g_drop p l1 kk hlen
   have hcall := HP.out wr (rd_T60 l1 (kk : Int)) (idx_look.mem l1 kk hlen) BW.out
   have hk0 : 0 ≤ (kk : Int) := by omega
   simp only [Int.toNat_natCast] at hx0 hx1
   generalize hy : rd_T60 l1 (kk : Int) = y at hcall hgd hx0 hx1
   clear hy
   cases hq : p y with
   | true =>
    rw [hq] at hcall
    have A2 : Aside0 (idx_look.g p l1 0 = (kk : Int)) := ⟨by rw [← A.out, hgd, if_pos hq]⟩
    clear A hgd hq hlen HP
    go_wp2_with fail
    refine hcall.mono ?_
    rintro e w' ⟨rfl, hb'⟩
    clear hcall hx0 hx1
    go_wp2_with fail
    go_ret
    exact ⟨by rw [A2.out]; rfl, below_then BW.out BW.out.size hb'⟩
   | false =>
    rw [hq] at hcall
    have A2 : Aside0 (idx_look.g p (l1.drop (kk + 1)) (kk + 1) = idx_look.g p l1 0) := ⟨by rw [← A.out, hgd, if_neg (by simp [hq])]⟩
    clear A hgd hq hlen HP
    go_wp2_with fail
    refine hcall.mono ?_
    rintro e w' ⟨rfl, hb'⟩
    clear hcall hx0 hx1
    go_wp2_with fail
    go_roundg (n - (kk + 1))
    case measure => omega
    case rel => exact ⟨kk + 1, by omega, by omega, by go_num, ⟨below_then BW.out BW.out.size hb'⟩, A2⟩
  ·have hltz : ¬ (kk : Int) < (n : Int) := by omega
   have : kk = n := by omega
   subst this
   have A2 : Aside0 (idx_look.g p l1 0 = -1) := ⟨by rw [← A.out, List.drop_eq_nil_of_le (by rw [HN.out]; exact Nat.le_refl _)]; rfl⟩
   clear A HP
   go_wp2
   go_ret
   exact ⟨by rw [A2.out]; rfl, BW.out⟩

-- NOT PRINTED: function 51 (class_Skeleton_1)

/-! ### class_Skeleton: function 27 -/
def class_Skeleton.p (v : Int) (s : S60) : Bool := s.f0 == v
def class_Skeleton.f (a0 : Int) : Option Int := (class_looks.f).bind fun l1 => if l1.length < 9223372036854775807 then (if idx_look.g (class_Skeleton.p a0) l1 0 < 0 then some a0 else some (rd_T60 l1 (idx_look.g (class_Skeleton.p a0) l1 0)).f1) else none
set_option maxHeartbeats 8000000 in
set_option maxRecDepth 100000 in
theorem class_Skeleton.pred (v : Int) (B : Nat) (w W : World) (x : S60) (hB : B < w.heap.size) (hcell : w.cell? ⟨B, 0, none⟩ = some (.int .i64 v)) (hb : Below w.heap.size w W) :
  Calls Try.prog 51 (#[.agg #[.int .i64 x.f0, .int .i64 x.f1]] ++ #[.pointer (some ⟨B, 0, none⟩)]) W fun e w' => e = .returned (.bool (class_Skeleton.p v x)) ∧ Below W.heap.size W w' := by
 have hc : W.cell? ⟨B, 0, none⟩ = some (.int .i64 v) := (hb.cell (p := ⟨B, 0, none⟩) hB).trans hcell
 have hBW : B < W.heap.size := Nat.lt_of_lt_of_le hB hb.size
 have hne : B ≠ W.heap.size := by omega
 have hu := Try.underlying60
 clear hb hcell
 show Calls Try.prog 51 #[.agg #[.int .i64 x.f0, .int .i64 x.f1], .pointer (some ⟨B, 0, none⟩)] W _
 have e : Aside0 (class_Skeleton.p v x = (x.f0 == v)) := ⟨rfl⟩
 go_enter Try.func51, Try.ntmps51
 go_wp2
 go_ret
 exact ⟨by rw [e.out]; rfl, (Below.refl _ _).alloc (Nat.le_refl _) _⟩
set_option maxHeartbeats 8000000 in
set_option maxRecDepth 100000 in
theorem class_Skeleton.calls (a0 : Int) (r : Int) (w : World) (h : class_Skeleton.f a0 = some r) :
  Calls Try.prog 27 #[.int .i64 a0] w fun e w' => e = .returned (.int .i64 r) ∧ Below w.heap.size w w' := by
 unfold class_Skeleton.f at h
 obtain ⟨l1, hl1, h⟩ := Option.bind_eq_some_iff.mp h
 split at h
 case isFalse => cases h
 rename_i hl
 have hu := Try.underlying60
 have eg : ∀ args w, (callFunc 51 args).run Try.prog w = .ok (.enter 51 args) w := enters_of Try.func51 (by kernel_rfl) rfl
 have HL := Aside0.mk (class_looks.calls l1 (w.alloc (.cells #[.int .i64 a0] 3)) hl1)
 have hlt := idx_look.g_lt (class_Skeleton.p a0) l1 0
 have HI := Aside0.mk (idx_look.calls (class_Skeleton.p a0) 51 #[.pointer (some ⟨w.heap.size, 0, none⟩)] eg)
 clear hl1 eg
 have HH := Aside0.mk h
 clear h
 go_enter Try.func27, Try.ntmps27
 go_wp2_with fail
 refine HL.out.mono ?_
 rintro e w1 ⟨v0, rfl, hR, hb1⟩
 clear HL
 obtain ⟨A, c, rfl, hc, hC⟩ := Kd.R_reads hR
 have hsz : w.heap.size < w1.heap.size := by have := hb1.size; simp at this; omega
 have hbox : w1.cell? ⟨w.heap.size, 0, none⟩ = some (.int .i64 a0) := (hb1.cell (p := ⟨w.heap.size, 0, none⟩) (by simp)).trans (by simp)
 have HI2 := Aside0.mk (HI.out A c l1 w1 hC hl (fun W x _ hb => class_Skeleton.pred a0 w.heap.size w1 W x hsz hbox hb))
 have HB1 : Aside0 (Below w.heap.size w w1) := ⟨((Below.refl _ w).alloc (Nat.le_refl _) _).trans (hb1.mono (by simp))⟩
 have HC := Aside0.mk hC
 have HX := Aside0.mk hbox
 clear HI hR hb1 hc hC hbox
 go_wp2_with fail
 refine HI2.out.mono ?_
 rintro e w2 ⟨rfl, hb2⟩
 clear HI2
 have HC2 := Aside0.mk (Kd.C_below HC.out hb2)
 have hx2 : w2.cell? ⟨w.heap.size, 0, none⟩ = some (.int .i64 a0) := (hb2.cell (p := ⟨w.heap.size, 0, none⟩) hsz).trans HX.out
 have HB2 : Aside0 (Below w.heap.size w w2) := ⟨below_then HB1.out HB1.out.size hb2⟩
 clear HC HX hb2 HB1
 generalize idx_look.g (class_Skeleton.p a0) l1 0 = i at hlt HH
 by_cases hi : i < 0
 ·have hd : decide (i < 0) = true := decide_eq_true hi
  have h := HH.out
  rw [if_pos hi] at h
  obtain rfl := Option.some.inj h
  clear h hi hlt
  go_wp2_with fail
  go_ret
  exact ⟨rfl, HB2.out⟩
 ·have hd : decide (i < 0) = false := decide_eq_false hi
  have hi0 : 0 ≤ i := by omega
  have hi1 : i < (l1.length : Int) := by
   rcases hlt with h | h <;> omega
  have h := HH.out
  rw [if_neg hi] at h
  obtain rfl := Option.some.inj h
  clear h hi hlt HH
  obtain ⟨ad, e0, hx0, hx1⟩ := at_T60 HC2.out i hi0 hi1
  cases e0
  clear hx0 hx2
  go_wp2_with fail
  go_ret
  exact ⟨rfl, HB2.out⟩

/-! ### utf_point: function 45 -/
def utf_point.f (a0 : Int) : Option (Bool) := if a0 ≥ 0 then (if a0 ≤ 1114111 then (if a0 < 55296 then (some true) else (some (decide (a0 > 57343)))) else (some false)) else (some false)
set_option maxHeartbeats 8000000 in
set_option maxRecDepth 100000 in
theorem utf_point.calls (a0 : Int) (r : Bool) (w : World) (h : utf_point.f a0 = some r) :
  Calls Try.prog 45 #[.int .i64 a0] w fun e w' => e = .returned (.bool r) ∧ Drawn0 w w' := by
 have H : (if a0 ≥ 0 then (if a0 ≤ 1114111 then (if a0 < 55296 then (some true) else (some (decide (a0 > 57343)))) else (some false)) else (some false)) = some r := h
 clear h
 by_cases c2 : a0 ≥ 0
 ·rw [if_pos c2] at H
  have c2b0 : decide (0 ≤ a0) = true := decide_eq_true c2
  clear c2
  by_cases c3 : a0 ≤ 1114111
  ·rw [if_pos c3] at H
   have c3b0 : decide (a0 ≤ 1114111) = true := decide_eq_true c3
   clear c3
   by_cases c4 : a0 < 55296
   ·rw [if_pos c4] at H
    have c4b0 : decide (a0 < 55296) = true := decide_eq_true c4
    clear c4
    obtain rfl := Option.some.inj H
    go_enter Try.func45, Try.ntmps45
    go_wp2
    go_ret
    exact ⟨by first | rfl | (simp; done) | (simp [*]; done), by repeat (first | exact Drawn0.refl _ | apply Drawn0.step)⟩
   ·rw [if_neg c4] at H
    have c4b0 : decide (a0 < 55296) = false := decide_eq_false c4
    clear c4
    obtain rfl := Option.some.inj H
    go_enter Try.func45, Try.ntmps45
    go_wp2
    go_ret
    exact ⟨by first | rfl | (simp; done) | (simp [*]; done), by repeat (first | exact Drawn0.refl _ | apply Drawn0.step)⟩
  ·rw [if_neg c3] at H
   have c3b0 : decide (a0 ≤ 1114111) = false := decide_eq_false c3
   clear c3
   obtain rfl := Option.some.inj H
   go_enter Try.func45, Try.ntmps45
   go_wp2
   go_ret
   exact ⟨by first | rfl | (simp; done) | (simp [*]; done), by repeat (first | exact Drawn0.refl _ | apply Drawn0.step)⟩
 ·rw [if_neg c2] at H
  have c2b0 : decide (0 ≤ a0) = false := decide_eq_false c2
  clear c2
  obtain rfl := Option.some.inj H
  go_enter Try.func45, Try.ntmps45
  go_wp2
  go_ret
  exact ⟨by first | rfl | (simp; done) | (simp [*]; done), by repeat (first | exact Drawn0.refl _ | apply Drawn0.step)⟩

/-! ### utf_Right: function 47 -/
def utf_Right.f (a0 : Int) : Option (Bool) := (utf_point.f a0).bind fun t107 => (if t107 = true then (some true) else (if a0 ≥ 1114240 then (some (decide (a0 ≤ 1114367))) else (some false)))
set_option maxHeartbeats 8000000 in
set_option maxRecDepth 100000 in
theorem utf_Right.calls (a0 : Int) (r : Bool) (w : World) (h : utf_Right.f a0 = some r) :
  Calls Try.prog 47 #[.int .i64 a0] w fun e w' => e = .returned (.bool r) ∧ Drawn0 w w' := by
 have H : ((utf_point.f a0).bind fun t107 => (if t107 = true then (some true) else (if a0 ≥ 1114240 then (some (decide (a0 ≤ 1114367))) else (some false)))) = some r := h
 clear h
 replace H := Option.bind_eq_some_iff.mp H
 obtain ⟨t107, A20, H⟩ := H
 replace H : (if t107 = true then (some true) else (if a0 ≥ 1114240 then (some (decide (a0 ≤ 1114367))) else (some false))) = some r := H
 have A2 := Aside0.mk A20
 clear A20
 by_cases c3 : t107 = true
 ·subst c3
  have H1 : (some true) = some r := by rw [if_pos rfl] at H; exact H
  clear H
  have H := H1
  clear H1
  obtain rfl := Option.some.inj H
  go_enter Try.func47, Try.ntmps47
  go_wp2_with (first | ((with_reducible refine gate_callee (f := 45) rfl ?_); refine goesL_ (some 4) rfl rfl Try.func45 (by kernel_rfl) rfl #[.int .i64 a0] rfl zl ?_; (with_reducible refine (utf_point.calls a0 true _ A2.out).mono ?_); rintro e w' ⟨rfl, ⟨nd, rfl⟩⟩; refine ⟨_, rfl, ?_⟩))
  go_ret
  exact ⟨by first | rfl | (simp; done) | (simp [*]; done), by repeat (first | exact Drawn0.refl _ | apply Drawn0.step)⟩
 ·replace c3 := Bool.eq_false_iff.mpr c3
  subst c3
  have H1 : (if a0 ≥ 1114240 then (some (decide (a0 ≤ 1114367))) else (some false)) = some r := by rw [if_neg (show ¬ (false = true) by decide)] at H; exact H
  clear H
  have H := H1
  clear H1
  by_cases c4 : a0 ≥ 1114240
  ·rw [if_pos c4] at H
   have c4b0 : decide (1114240 ≤ a0) = true := decide_eq_true c4
   clear c4
   obtain rfl := Option.some.inj H
   go_enter Try.func47, Try.ntmps47
   go_wp2_with (first | ((with_reducible refine gate_callee (f := 45) rfl ?_); refine goesL_ (some 4) rfl rfl Try.func45 (by kernel_rfl) rfl #[.int .i64 a0] rfl zl ?_; (with_reducible refine (utf_point.calls a0 false _ A2.out).mono ?_); rintro e w' ⟨rfl, ⟨nd, rfl⟩⟩; refine ⟨_, rfl, ?_⟩))
   go_ret
   exact ⟨by first | rfl | (simp; done) | (simp [*]; done), by repeat (first | exact Drawn0.refl _ | apply Drawn0.step)⟩
  ·rw [if_neg c4] at H
   have c4b0 : decide (1114240 ≤ a0) = false := decide_eq_false c4
   clear c4
   obtain rfl := Option.some.inj H
   go_enter Try.func47, Try.ntmps47
   go_wp2_with (first | ((with_reducible refine gate_callee (f := 45) rfl ?_); refine goesL_ (some 4) rfl rfl Try.func45 (by kernel_rfl) rfl #[.int .i64 a0] rfl zl ?_; (with_reducible refine (utf_point.calls a0 false _ A2.out).mono ?_); rintro e w' ⟨rfl, ⟨nd, rfl⟩⟩; refine ⟨_, rfl, ?_⟩))
   go_ret
   exact ⟨by first | rfl | (simp; done) | (simp [*]; done), by repeat (first | exact Drawn0.refl _ | apply Drawn0.step)⟩

/-! ### class_span: function 79 -/
def idx_span.g (p : S92 → Bool) : List S92 → Nat → Int
 | [], _ => -1
 | x :: xs, i => if p x = true then (i : Int) else idx_span.g p xs (i + 1)
theorem idx_span.g_drop (p : S92 → Bool) (l : List S92) (k : Nat) (h : k < l.length) : idx_span.g p (l.drop k) k = if p (rd_T92 l (k : Int)) = true then (k : Int) else idx_span.g p (l.drop (k + 1)) (k + 1) := by
 rw [List.drop_eq_getElem_cons h]
 have e : rd_T92 l (k : Int) = l[k] := by
  unfold rd_T92
  rw [Int.toNat_natCast, List.getD_eq_getElem?_getD, List.getElem?_eq_getElem h]
  rfl
 rw [e]
 rfl
theorem idx_span.mem (l : List S92) (k : Nat) (h : k < l.length) : rd_T92 l (k : Int) ∈ l := by
 have e : rd_T92 l (k : Int) = l[k] := by
  unfold rd_T92
  rw [Int.toNat_natCast, List.getD_eq_getElem?_getD, List.getElem?_eq_getElem h]
  rfl
 rw [e]
 exact List.getElem_mem h
theorem idx_span.g_ge (p : S92 → Bool) (l : List S92) : ∀ i : Nat, decide (idx_span.g p l i ≥ 0) = l.any p := by
 induction l with
 | nil => intro i; rfl
 | cons x xs ih =>
  intro i
  by_cases h : p x = true
  ·simp only [idx_span.g, if_pos h, List.any_cons, h, Bool.true_or]
   exact decide_eq_true (by omega : (i : Int) ≥ 0)
  ·simp only [idx_span.g, if_neg h, List.any_cons, ih (i + 1)]
   simp [h]
theorem idx_span.g_lt (p : S92 → Bool) (l : List S92) : ∀ i : Nat, idx_span.g p l i < (i : Int) + (l.length : Int) ∨ idx_span.g p l i = -1 := by
 induction l with
 | nil => intro i; exact .inr rfl
 | cons x xs ih =>
  intro i
  unfold idx_span.g
  split
  ·left; simp only [List.length_cons]; omega
  ·rcases ih (i + 1) with h | h
   ·left; simp only [List.length_cons]; omega
   ·exact .inr h
set_option maxHeartbeats 8000000 in
set_option maxRecDepth 100000 in
theorem idx_span.calls (p : S92 → Bool) (g : Nat) (lb : Array Value) (eg : ∀ args w, (callFunc g args).run Try.prog w = .ok (.enter g args) w)
  (A1 : Option Addr) (c1 : Nat) (l1 : List S92) (w : World) (hr1 : Kd.C k92 w A1 l1.length l1) (hl1 : l1.length < 9223372036854775807)
  (hp : ∀ (W : World) (x : S92), x ∈ l1 → Below w.heap.size w W → Calls Try.prog g (#[.agg #[.int .i64 x.f0, .int .i64 x.f1, .int .i64 x.f2]] ++ lb) W fun e w' => e = .returned (.bool (p x)) ∧ Below W.heap.size W w') :
  Calls Try.prog 79 #[.slice A1 l1.length c1, .func (.func g) #[] lb] w fun e w' => e = .returned (.int .i64 (idx_span.g p l1 0)) ∧ Below w.heap.size w w' := by
 have hu92 := Try.underlying92
 have HR1 := Aside0.mk hr1
 have HP := Aside0.mk hp
 clear hr1 hp
 generalize hn : l1.length = n at hl1 HR1 ⊢
 have HN := Aside0.mk hn
 clear hn
 go_enter Try.func79, Try.ntmps79
 go_wp2
 go_loopg [5, 8] n (fun gg _ s8 wr => ∃ kk : Nat, kk ≤ n ∧ n - kk ≤ gg ∧ s8 = .int .i64 kk ∧ Aside0 (Below w.heap.size w wr) ∧ Aside0 (idx_span.g p (l1.drop kk) kk = idx_span.g p l1 0))
 case atStart => exact ⟨0, Nat.zero_le _, by omega, rfl, ⟨Below.refl _ w⟩, ⟨by simp⟩⟩
 case round =>
  obtain ⟨kk, hkk, hg, rfl, BW, A⟩ := hrel
  by_cases hlt : kk < n
  ·have hltz : (kk : Int) < (n : Int) := by omega
   have hlen : kk < l1.length := by rw [HN.out]; exact hlt
   obtain ⟨ad, e0, hx0, hx1, hx2⟩ := at_T92 (Kd.C_below HR1.out BW.out) (kk : Int) (by omega) (by omega)
   cases e0
   have hgd := idx_span.g_drop p l1 kk hlen
   have hcall := HP.out wr (rd_T92 l1 (kk : Int)) (idx_span.mem l1 kk hlen) BW.out
   have hk0 : 0 ≤ (kk : Int) := by omega
   simp only [Int.toNat_natCast] at hx0 hx1 hx2
   generalize hy : rd_T92 l1 (kk : Int) = y at hcall hgd hx0 hx1 hx2
   clear hy
   cases hq : p y with
   | true =>
    rw [hq] at hcall
    have A2 : Aside0 (idx_span.g p l1 0 = (kk : Int)) := ⟨by rw [← A.out, hgd, if_pos hq]⟩
    clear A hgd hq hlen HP
    go_wp2_with fail
    refine hcall.mono ?_
    rintro e w' ⟨rfl, hb'⟩
    clear hcall hx0 hx1 hx2
    go_wp2_with fail
    go_ret
    exact ⟨by rw [A2.out]; rfl, below_then BW.out BW.out.size hb'⟩
   | false =>
    rw [hq] at hcall
    have A2 : Aside0 (idx_span.g p (l1.drop (kk + 1)) (kk + 1) = idx_span.g p l1 0) := ⟨by rw [← A.out, hgd, if_neg (by simp [hq])]⟩
    clear A hgd hq hlen HP
    go_wp2_with fail
    refine hcall.mono ?_
    rintro e w' ⟨rfl, hb'⟩
    clear hcall hx0 hx1 hx2
    go_wp2_with fail
    go_roundg (n - (kk + 1))
    case measure => omega
    case rel => exact ⟨kk + 1, by omega, by omega, by go_num, ⟨below_then BW.out BW.out.size hb'⟩, A2⟩
  ·have hltz : ¬ (kk : Int) < (n : Int) := by omega
   have : kk = n := by omega
   subst this
   have A2 : Aside0 (idx_span.g p l1 0 = -1) := ⟨by rw [← A.out, List.drop_eq_nil_of_le (by rw [HN.out]; exact Nat.le_refl _)]; rfl⟩
   clear A HP
   go_wp2
   go_ret
   exact ⟨by rw [A2.out]; rfl, BW.out⟩

-- NOT PRINTED: function 80 (class_in_1)

end Go.Proofs.Ytpkmoonfnbcphaa.PAll
