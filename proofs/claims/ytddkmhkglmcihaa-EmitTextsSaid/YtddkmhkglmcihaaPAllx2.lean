-- Printed for this claim by the session's own program (wip/tool/hprint.py) over the kit's print; some functions' texts are the session's own.
import Derived.Test.YtddkmhkglmcihaaPAllx0
namespace Go.Proofs.Ytddkmhkglmcihaa.PAll
open Go.RowKit Go.Proofs.YtddkmhkglmcihaaW.PrintWords Go.Proofs.YtddkmhkglmcihaaW.PrintLast Go.Proofs.YtddkmhkglmcihaaW.PrintMore
attribute [local go_sem] max2_int min2_int max_two min_two max_three min_three max_four min_four   -- for this text's walks alone
set_option linter.unusedVariables false
set_option linter.unusedSimpArgs false

/-! ### dactyllaw10_Light: function 7 -/
def dactyllaw10_Light.l0 : Nat → List (S31) → Int → Option (Bool)
 | 0, _, _ => none
 | k + 1, x0, x3 => if x3 < (x0.length : Int) then (if 0 ≤ x3 then (if (((rd_T31 x0 x3).f3).size : Int) > 200 then (some false) else (dactyllaw10_Light.l0 k x0 (wrap64 (x3 + 1)))) else (none)) else (some (decide ((x0.length : Int) ≤ 60)))
def dactyllaw10_Light.f (k : Nat) (l0 : List (S31)) : Option (Bool) := dactyllaw10_Light.l0 k l0 0
theorem dactyllaw10_Light.mono_l : ∀ k, (∀ y0 y1, LeO (dactyllaw10_Light.l0 k y0 y1) (dactyllaw10_Light.l0 (k + 1) y0 y1))
 | 0 => fun _ _ r h => by simp [dactyllaw10_Light.l0] at h
 | k + 1 => by
  have ih0 := dactyllaw10_Light.mono_l k
  ·intro y0 y1
   unfold dactyllaw10_Light.l0
   repeat' first
   | (with_reducible exact ih0 _ _)
   | (with_reducible exact LeO.refl _)
   | (with_reducible exact LeO.none _)
   | (with_reducible refine LeO.ite ?_ ?_)
   | (with_reducible refine LeO.bind ?_ (fun _ => ?_))
   | exact ih0 _ _
   | exact LeO.none _
   | refine LeO.ite ?_ ?_
   | refine LeO.bind ?_ (fun _ => ?_)
theorem dactyllaw10_Light.mono : ∀ a0 k, LeO (dactyllaw10_Light.f k a0) (dactyllaw10_Light.f (k + 1) a0) := by
 intro a0 k
 have ih0 := dactyllaw10_Light.mono_l k
 unfold dactyllaw10_Light.f
 repeat' first
   | (with_reducible exact ih0 _ _)
   | (with_reducible exact LeO.refl _)
   | (with_reducible exact LeO.none _)
   | (with_reducible refine LeO.ite ?_ ?_)
   | (with_reducible refine LeO.bind ?_ (fun _ => ?_))
   | exact ih0 _ _
   | exact LeO.none _
   | refine LeO.ite ?_ ?_
   | refine LeO.bind ?_ (fun _ => ?_)
set_option maxHeartbeats 8000000 in
set_option maxRecDepth 100000 in
theorem dactyllaw10_Light.calls (k : Nat) (A0 : Option Addr) (c0 : Nat) (l0 : List (S31)) (r : Bool) (w : World) (hr0 : Kd.C k31 w A0 l0.length l0) (hc0 : l0.length ≤ c0) (h : dactyllaw10_Light.f k l0 = some r) :
  Calls Try.prog 7 #[.slice A0 l0.length c0] w fun e w' => e = .returned (.bool r) ∧ Drawn0 w w' := by
 have HR0 := Aside0.mk hr0
 have HC0 := Aside0.mk hc0
 clear hr0 hc0
 have H : (dactyllaw10_Light.l0 k l0 0) = some r := h
 clear h
 have H' := Aside0.mk H
 clear H
 go_enter Try.func7, Try.ntmps7
 go_wp2
 go_loopg [3] k (fun kq v3 w' => ∃ (x3_1 : Int), v3 = .int .i64 x3_1 ∧ Aside0 (dactyllaw10_Light.l0 kq l0 x3_1 = some r) ∧ Aside0 (kq ≤ k) ∧ Drawn0 w w')
 case atStart => exact ⟨(0), (by first | rfl | (simp; done) | (simp [*]; done)), H', ⟨Nat.le_refl _⟩, by repeat (first | exact Drawn0.refl _ | apply Drawn0.step)⟩
 case round =>
  clear H'
  obtain ⟨x3_1, rfl, HA, HK1, ⟨m1, rfl⟩⟩ := hrel
  cases gk with
  | zero => exact absurd HA.out (by simp [dactyllaw10_Light.l0])
  | succ k1 =>
   have H := HA.out
   clear HA
   simp only [dactyllaw10_Light.l0] at H
   by_cases c2 : x3_1 < (l0.length : Int)
   ·rw [if_pos c2] at H
    have c2b0 : decide (x3_1 < (l0.length : Int)) = true := decide_eq_true c2
    clear c2
    by_cases c3 : 0 ≤ x3_1
    ·rw [if_pos c3] at H
     have c3b0 : decide (0 ≤ x3_1) = true := decide_eq_true c3
     clear c3
     by_cases c4 : (((rd_T31 l0 x3_1).f3).size : Int) > 200
     ·rw [if_pos c4] at H
      have c4b0 : decide (200 < (((rd_T31 l0 x3_1).f3).size : Int)) = true := decide_eq_true c4
      have c4b1 : decide (200 < ((rd_T31 l0 x3_1).f3).size) = true := decide_eq_true (by omega)
      clear c4
      obtain rfl := Option.some.inj H
      have p101 : 0 ≤ (x3_1 : Int) := of_decide_eq_true za
      have q101 : x3_1 < (l0.length : Int) := of_decide_eq_true za
      obtain ⟨ad101, e101, hx101_0, hx101_1, hx101_2, hx101_3⟩ := at_T31 HR0.out x3_1 p101 q101
      cases e101
      replace p101 := eq_true p101
      replace q101 := eq_true q101
      go_wp2
      go_ret
      exact ⟨by first | rfl | (simp; done) | (simp [*]; done), by repeat (first | exact Drawn0.refl _ | apply Drawn0.step)⟩
     ·rw [if_neg c4] at H
      have c4b0 : decide (200 < (((rd_T31 l0 x3_1).f3).size : Int)) = false := decide_eq_false c4
      have c4b1 : decide (200 < ((rd_T31 l0 x3_1).f3).size) = false := decide_eq_false (by omega)
      clear c4
      have H' := Aside0.mk H
      clear H
      have p101 : 0 ≤ (x3_1 : Int) := of_decide_eq_true za
      have q101 : x3_1 < (l0.length : Int) := of_decide_eq_true za
      obtain ⟨ad101, e101, hx101_0, hx101_1, hx101_2, hx101_3⟩ := at_T31 HR0.out x3_1 p101 q101
      cases e101
      replace p101 := eq_true p101
      replace q101 := eq_true q101
      go_wp2
      go_roundg k1
      case measure => have := HK1.out; omega
      case rel => exact ⟨(wrap64 (x3_1 + 1)), (by first | rfl | (simp; done) | (simp [*]; done)), H', ⟨by have := HK1.out; omega⟩, by repeat (first | exact Drawn0.refl _ | apply Drawn0.step)⟩
    ·rw [if_neg c3] at H
     exact absurd H (by simp)
   ·rw [if_neg c2] at H
    have c2b0 : decide (x3_1 < (l0.length : Int)) = false := decide_eq_false c2
    clear c2
    obtain rfl := Option.some.inj H
    go_wp2
    go_ret
    exact ⟨by first | rfl | (simp; done) | (simp [*]; done), by repeat (first | exact Drawn0.refl _ | apply Drawn0.step)⟩

/-! ### stringslite_HasPrefix: function 56 -/
def stringslite_HasPrefix.f (a0 : ByteArray) (a1 : ByteArray) : Option (Bool) := if (a0.size : Int) ≥ (a1.size : Int) then (if 0 ≤ (a1.size : Int) then (if (a1.size : Int) ≤ (a0.size : Int) then (some ((a0.extract 0 ((a1.size : Int) : Int).toNat).toList == a1.toList)) else (none)) else (none)) else (some false)
set_option maxHeartbeats 8000000 in
set_option maxRecDepth 100000 in
theorem stringslite_HasPrefix.calls (a0 : ByteArray) (a1 : ByteArray) (r : Bool) (w : World) (h : stringslite_HasPrefix.f a0 a1 = some r) :
  Calls Try.prog 56 #[.string a0, .string a1] w fun e w' => e = .returned (.bool r) ∧ Drawn0 w w' := by
 have H : (if (a0.size : Int) ≥ (a1.size : Int) then (if 0 ≤ (a1.size : Int) then (if (a1.size : Int) ≤ (a0.size : Int) then (some ((a0.extract 0 ((a1.size : Int) : Int).toNat).toList == a1.toList)) else (none)) else (none)) else (some false)) = some r := h
 clear h
 by_cases c3 : (a0.size : Int) ≥ (a1.size : Int)
 ·rw [if_pos c3] at H
  have c3b0 : decide ((a1.size : Int) ≤ (a0.size : Int)) = true := decide_eq_true c3
  have c3b1 : decide (a1.size ≤ a0.size) = true := decide_eq_true (Int.ofNat_le.mp c3)
  clear c3
  by_cases c4 : 0 ≤ (a1.size : Int)
  ·rw [if_pos c4] at H
   have c4b0 := eq_true c4
   have c4b1 : decide (0 ≤ (a1.size : Int)) = true := decide_eq_true c4
   clear c4
   by_cases c5 : (a1.size : Int) ≤ (a0.size : Int)
   ·rw [if_pos c5] at H
    have c5b0 := eq_true c5
    have c5b1 : decide ((a1.size : Int) ≤ (a0.size : Int)) = true := decide_eq_true c5
    clear c5
    obtain rfl := Option.some.inj H
    go_enter Try.func56, Try.ntmps56
    go_wp2
    go_ret
    exact ⟨by first | rfl | (simp; done) | (simp [*]; done), by repeat (first | exact Drawn0.refl _ | apply Drawn0.step)⟩
   ·rw [if_neg c5] at H
    exact absurd H (by simp)
  ·rw [if_neg c4] at H
   exact absurd H (by simp)
 ·rw [if_neg c3] at H
  have c3b0 : decide ((a1.size : Int) ≤ (a0.size : Int)) = false := decide_eq_false c3
  have c3b1 : decide (a1.size ≤ a0.size) = false := decide_eq_false (fun h => c3 (Int.ofNat_le.mpr h))
  clear c3
  obtain rfl := Option.some.inj H
  go_enter Try.func56, Try.ntmps56
  go_wp2
  go_ret
  exact ⟨by first | rfl | (simp; done) | (simp [*]; done), by repeat (first | exact Drawn0.refl _ | apply Drawn0.step)⟩

/-! ### strings_HasPrefix: function 58 -/
def strings_HasPrefix.f (a0 : ByteArray) (a1 : ByteArray) : Option (Bool) := (stringslite_HasPrefix.f a0 a1).bind fun t102 => (some t102)
set_option maxHeartbeats 8000000 in
set_option maxRecDepth 100000 in
theorem strings_HasPrefix.calls (a0 : ByteArray) (a1 : ByteArray) (r : Bool) (w : World) (h : strings_HasPrefix.f a0 a1 = some r) :
  Calls Try.prog 58 #[.string a0, .string a1] w fun e w' => e = .returned (.bool r) ∧ Drawn0 w w' := by
 have H : ((stringslite_HasPrefix.f a0 a1).bind fun t102 => (some t102)) = some r := h
 clear h
 replace H := Option.bind_eq_some_iff.mp H
 obtain ⟨t102, A30, H⟩ := H
 replace H : (some t102) = some r := H
 have A3 := Aside0.mk A30
 clear A30
 obtain rfl := Option.some.inj H
 go_enter Try.func58, Try.ntmps58
 go_wp2_with (first | ((with_reducible refine gate_callee (f := 56) rfl ?_); refine goesL_ (some 7) rfl rfl Try.func56 (by kernel_rfl) rfl #[.string a0, .string a1] rfl zl ?_; (with_reducible refine (stringslite_HasPrefix.calls a0 a1 t102 _ A3.out).mono ?_); rintro e w' ⟨rfl, ⟨nd, rfl⟩⟩; refine ⟨_, rfl, ?_⟩))
 go_ret
 exact ⟨by first | rfl | (simp; done) | (simp [*]; done), by repeat (first | exact Drawn0.refl _ | apply Drawn0.step)⟩

/-! ### utf_value: function 48 -/
def utf_value.f (a0 : ByteArray) (a1 : Int) : Option (Int) := if a1 = 65533 then ((strings_HasPrefix.f a0 (⟨#[239, 191, 189]⟩ : ByteArray)).bind fun t103 => (if t103 = true then (some (wrap64 (a1))) else (if 0 < (a0.size : Int) then (some (wrap64 (1114112 + (wrap64 (bt a0 0))))) else (none)))) else (some (wrap64 (a1)))
set_option maxHeartbeats 8000000 in
set_option maxRecDepth 100000 in
theorem utf_value.calls (a0 : ByteArray) (a1 : Int) (r : Int) (w : World) (h : utf_value.f a0 a1 = some r) :
  Calls Try.prog 48 #[.string a0, .int .i32 a1] w fun e w' => e = .returned (.int .i64 r) ∧ Drawn0 w w' := by
 have H : (if a1 = 65533 then ((strings_HasPrefix.f a0 (⟨#[239, 191, 189]⟩ : ByteArray)).bind fun t103 => (if t103 = true then (some (wrap64 (a1))) else (if 0 < (a0.size : Int) then (some (wrap64 (1114112 + (wrap64 (bt a0 0))))) else (none)))) else (some (wrap64 (a1)))) = some r := h
 clear h
 by_cases c3 : a1 = 65533
 ·rw [if_pos c3] at H
  have c3b0 : (a1 == 65533) = true := beq_iff_eq.mpr c3
  have c3b1 : (a1 != 65533) = false := bne_eq_false_iff_eq.mpr c3
  clear c3
  replace H := Option.bind_eq_some_iff.mp H
  obtain ⟨t103, A40, H⟩ := H
  replace H : (if t103 = true then (some (wrap64 (a1))) else (if 0 < (a0.size : Int) then (some (wrap64 (1114112 + (wrap64 (bt a0 0))))) else (none))) = some r := H
  have A4 := Aside0.mk A40
  clear A40
  by_cases c5 : t103 = true
  ·subst c5
   have H1 : (some (wrap64 (a1))) = some r := by rw [if_pos rfl] at H; exact H
   clear H
   have H := H1
   clear H1
   obtain rfl := Option.some.inj H
   go_enter Try.func48, Try.ntmps48
   go_wp2_with (first | (go_at_call 58; (with_reducible refine (strings_HasPrefix.calls a0 (⟨#[239, 191, 189]⟩ : ByteArray) true _ A4.out).mono ?_); rintro e w' ⟨rfl, ⟨nd, rfl⟩⟩))
   go_ret
   exact ⟨by first | rfl | (simp; done) | (simp [*]; done), by repeat (first | exact Drawn0.refl _ | apply Drawn0.step)⟩
  ·replace c5 := Bool.eq_false_iff.mpr c5
   subst c5
   have H1 : (if 0 < (a0.size : Int) then (some (wrap64 (1114112 + (wrap64 (bt a0 0))))) else (none)) = some r := by rw [if_neg (show ¬ (false = true) by decide)] at H; exact H
   clear H
   have H := H1
   clear H1
   by_cases c6 : 0 < (a0.size : Int)
   ·rw [if_pos c6] at H
    have c6b0 : decide (0 < (a0.size : Int)) = true := decide_eq_true c6
    have c6b1 : decide (0 < a0.size) = true := decide_eq_true (by omega)
    clear c6
    obtain rfl := Option.some.inj H
    go_enter Try.func48, Try.ntmps48
    go_wp2_with (first | (go_at_call 58; (with_reducible refine (strings_HasPrefix.calls a0 (⟨#[239, 191, 189]⟩ : ByteArray) false _ A4.out).mono ?_); rintro e w' ⟨rfl, ⟨nd, rfl⟩⟩; have p7 : 0 ≤ (0 : Int) := (by omega); have q7 : 0 < a0.size := (by have : (0 : Int) < (a0.size : Int) := of_decide_eq_true za; omega); have hx7 : ∀ h : 0 < a0.size, ((a0[0]'h).toNat : Int) = bt a0 0 := bt_at a0 0; clear p7; have qi7 : (0 < (a0.size : Int)) = True := eq_true (of_decide_eq_true za); replace q7 := eq_true q7))
    go_ret
    exact ⟨by first | rfl | (simp; done) | (simp [*]; done), by repeat (first | exact Drawn0.refl _ | apply Drawn0.step)⟩
   ·rw [if_neg c6] at H
    exact absurd H (by simp)
 ·rw [if_neg c3] at H
  have c3b0 : (a1 == 65533) = false := beq_eq_false_iff_ne.mpr c3
  have c3b1 : (a1 != 65533) = true := bne_iff_ne.mpr c3
  obtain rfl := Option.some.inj H
  go_enter Try.func48, Try.ntmps48
  go_wp2
  go_ret
  exact ⟨by first | rfl | (simp; done) | (simp [*]; done), by repeat (first | exact Drawn0.refl _ | apply Drawn0.step)⟩

/-! ### utf_Decode: function 31 -/
def utf_Decode.v (s : ByteArray) (p : Nat) : Int := (utf_value.f (s.extract p s.size) ((Utf8.decode s p).1 : Int)).getD 0
def utf_Decode.l : Nat → ByteArray → Nat → List Int
 | 0, _, _ => []
 | n + 1, s, p => if p < s.size then utf_Decode.v s p :: utf_Decode.l n s (p + (Utf8.decode s p).2) else []
def utf_Decode.f (a0 : ByteArray) : Option (List Int) := if a0.size < 17592186044416 then some (utf_Decode.l a0.size a0 0) else none
theorem utf_Decode.has (s p : ByteArray) : ∃ b, strings_HasPrefix.f s p = some b := by
 unfold strings_HasPrefix.f stringslite_HasPrefix.f
 repeat' split
 all_goals first | exact ⟨_, rfl⟩ | omega
theorem utf_Decode.val (s : ByteArray) (r : Int) (h : 0 < s.size) : ∃ v, utf_value.f s r = some v := by
 unfold utf_value.f
 obtain ⟨b, hb⟩ := utf_Decode.has s (⟨#[239, 191, 189]⟩ : ByteArray)
 rw [hb]
 simp only [Option.bind_some]
 repeat' split
 all_goals first | exact ⟨_, rfl⟩ | omega
theorem utf_Decode.value_some (s : ByteArray) (p : Nat) (h : p < s.size) : utf_value.f (s.extract p s.size) ((Utf8.decode s p).1 : Int) = some (utf_Decode.v s p) := by
 obtain ⟨v, hv⟩ := utf_Decode.val (s.extract p s.size) ((Utf8.decode s p).1 : Int) (by rw [ByteArray.size_extract]; omega)
 unfold utf_Decode.v
 rw [hv]
 rfl
theorem utf_Decode.width (s : ByteArray) (p : Nat) (h : p < s.size) : 1 ≤ (Utf8.decode s p).2 := by
 by_cases ha : (s[p]'h).toNat < 128
 ·rw [decode_ascii s p h ha]
  exact Nat.le_refl _
 ·exact (decode_high s p h (by omega)).2
theorem utf_Decode.l_len (s : ByteArray) : ∀ n p, (utf_Decode.l n s p).length ≤ n
 | 0, _ => Nat.le_refl _
 | n + 1, p => by
  unfold utf_Decode.l
  split
  ·rw [List.length_cons]; have := utf_Decode.l_len s n (p + (Utf8.decode s p).2); omega
  ·simp
set_option maxHeartbeats 8000000 in
set_option maxRecDepth 100000 in
theorem utf_Decode.calls (a0 : ByteArray) (r : List Int) (w : World) (h : utf_Decode.f a0 = some r) :
  Calls Try.prog 31 #[.string a0] w fun e w' => ∃ v0_ : Value, e = .returned (v0_) ∧ Kd.R (Kd.int .i64) 3 w' w.heap.size (fun _ => True) v0_ r ∧ Below w.heap.size w w' := by
 unfold utf_Decode.f at h
 split at h
 case isFalse => cases h
 rename_i hsz
 obtain rfl := Option.some.inj h
 clear h
 go_enter Try.func31, Try.ntmps31
 go_wp2
 go_loopg [3] a0.size (fun b v3 wr => ∃ (pos : Nat) (acc : List Int), wr.heap[w.heap.size]? = some (.stringIter a0 pos) ∧ Aside0 (Kd.R (Kd.int .i64) 3 wr (w.heap.size + 1) (fun _ => True) v3 acc) ∧ Aside0 (Below w.heap.size w wr) ∧ Aside0 (acc ++ utf_Decode.l b a0 pos = utf_Decode.l a0.size a0 0) ∧ Aside0 (a0.size ≤ pos + b) ∧ Aside0 (acc.length + b ≤ a0.size))
 case atStart => exact ⟨0, [], World.iter_heap w a0 0, ⟨Kd.R_nil _ _ _ _ _⟩, ⟨(Below.refl _ _).alloc (Nat.le_refl _) _⟩, ⟨rfl⟩, ⟨by omega⟩, ⟨by simp⟩⟩
 case round =>
  obtain ⟨pos, acc, hit, HO, HB, HE, HS, HL⟩ := hrel
  by_cases hp : pos < a0.size
  ·have hnx : ∀ ty, (Instr.next (.pointer (some ⟨w.heap.size, 0, none⟩)) true ty).run Try.prog wr = _ := fun ty => Lib.run_next_any_at wr w.heap.size a0 pos ty hit hp
   have hwd := utf_Decode.width a0 pos hp
   have hdl := decode_le a0 pos
   have hv := Aside0.mk (utf_Decode.value_some a0 pos hp)
   cases gk with
   | zero => exact absurd HS.out (by omega)
   | succ b =>
   have hit2 := Lib.iterAt_heap wr w.heap.size a0 pos (pos + (Utf8.decode a0 pos).2) hit
   have hbw2 := Lib.below_iterAt HB.out (k := w.heap.size) (Nat.le_refl _) a0 (pos + (Utf8.decode a0 pos).2)
   have hown2 : Kd.R (Kd.int .i64) 3 (wr.iterAt w.heap.size a0 (pos + (Utf8.decode a0 pos).2)) (w.heap.size + 1) (fun _ => True) u3 acc := Kd.R_mono (Kd.R_step (Kd.R_bound HO.out) (fun k hk _ => Lib.iterAt_other wr w.heap.size k a0 _ (by have := hk.2.1; omega))) (fun _ _ => trivial)
   obtain ⟨W1, hW1⟩ : ∃ W1, W1 = wr.iterAt w.heap.size a0 (pos + (Utf8.decode a0 pos).2) := ⟨_, rfl⟩
   rw [← hW1] at hnx hit2 hbw2 hown2
   have hlt : w.heap.size < W1.heap.size := lt_of_block hit2
   clear hW1 hit HO HB
   have hit2' := Aside0.mk hit2
   have HB := Aside0.mk hbw2
   have HO := Aside0.mk hown2
   clear hit2 hbw2 hown2
   obtain ⟨y0, hy0⟩ : ∃ y_ : List Int, y_ = (acc ++ [utf_Decode.v a0 pos]) := ⟨_, rfl⟩
   have Ny := Aside0.mk hy0
   clear hy0
   go_wp2_with (first | ((with_reducible refine gate_callee (f := 48) rfl ?_); refine goesL_ (some 17) rfl rfl Try.func48 (by kernel_rfl) rfl #[.string (a0.extract pos a0.size), .int .i32 ((Utf8.decode a0 pos).1 : Int)] rfl zl ?_; (with_reducible refine (utf_value.calls _ _ _ _ hv.out).mono ?_); rintro e w' ⟨rfl, ⟨nd, rfl⟩⟩; refine ⟨_, rfl, ?_⟩) | ((with_reducible refine gate_builtin (b := .append) (xs := #[.tmp 12, .tmp 18]) rfl ?_); at_builtin; refine Kd.R_append (Kd.int .i64) (w0 := W1) (w.heap.size + 1) rfl (.tmp 12) (.tmp 18) 38 3 (.int .i64 0) 8 rfl Try.underlying38 info3 rfl (by decide) (by omega) u3 acc (utf_Decode.v a0 pos) [.int .i64 (utf_Decode.v a0 pos)] (fun _ => True) (fun _ => False) rfl rfl ?aP (fun _ hk => hk.elim) ?aF ?aO ?aB ?aS ?aL ?_; (case aP => exact rfl); (case aB => exact pw_below_drewN (Below.refl _ _) _); (case aF => exact (fun _ _ => trivial)); (case aO => exact (zk HO.out)); (case aS => exact hlt); (case aL => have := HL.out; omega); intro v143 w7 ho hb hg hat; rw [← Ny.out] at ho; have n0_ := Aside0.mk (hb); have n1_ := Aside0.mk (ho); clear HO; have HO := n1_; have HBn := n0_; clear n0_ n1_; clear ho hb hg hat))
   go_roundg b
   case measure => omega
   case rel => exact ⟨pos + (Utf8.decode a0 pos).2, y0, (HBn.out.block _ (by omega)).trans hit2'.out, HO, ⟨HB.out.trans ⟨HBn.out.os, HBn.out.tape, HBn.out.output, HBn.out.size, fun i hi => HBn.out.block i (by omega)⟩⟩, ⟨by rw [Ny.out]; have := HE.out; simp only [utf_Decode.l, if_pos hp] at this; rw [← this]; simp⟩, ⟨by have := HS.out; omega⟩, ⟨by rw [Ny.out, List.length_append, List.length_singleton]; have := HL.out; omega⟩⟩
  ·have hnx : ∀ ty, (Instr.next (.pointer (some ⟨w.heap.size, 0, none⟩)) true ty).run Try.prog wr = _ := fun ty => Lib.run_next_end_at wr w.heap.size a0 pos ty hit hp
   have he : acc = utf_Decode.l a0.size a0 0 := by
    have := HE.out
    rw [← this]
    cases gk with
    | zero => simp [utf_Decode.l]
    | succ b => simp [utf_Decode.l, hp]
   have He := Aside0.mk he
   clear he
   go_wp2
   go_ret
   exact ⟨_, rfl, He.out ▸ Kd.R_lower HO.out (Nat.le_succ _), HB.out⟩

/-! ### utf_point: function 68 -/
def utf_point.f (a0 : Int) : Option (Bool) := if a0 ≥ 0 then (if a0 ≤ 1114111 then (if a0 < 55296 then (some true) else (some (decide (a0 > 57343)))) else (some false)) else (some false)
set_option maxHeartbeats 8000000 in
set_option maxRecDepth 100000 in
theorem utf_point.calls (a0 : Int) (r : Bool) (w : World) (h : utf_point.f a0 = some r) :
  Calls Try.prog 68 #[.int .i64 a0] w fun e w' => e = .returned (.bool r) ∧ Drawn0 w w' := by
 have H : (if a0 ≥ 0 then (if a0 ≤ 1114111 then (if a0 < 55296 then (some true) else (some (decide (a0 > 57343)))) else (some false)) else (some false)) = some r := h
 clear h
 by_cases c2 : a0 ≥ 0
 ·rw [if_pos c2] at H
  have c2b0 : decide (0 ≤ a0) = true := decide_eq_true c2
  clear c2
  by_cases c3 : a0 ≤ 1114111
  ·rw [if_pos c3] at H
   have c3b0 : decide (a0 ≤ 1114111) = true := decide_eq_true c3
   clear c3
   by_cases c4 : a0 < 55296
   ·rw [if_pos c4] at H
    have c4b0 : decide (a0 < 55296) = true := decide_eq_true c4
    clear c4
    obtain rfl := Option.some.inj H
    go_enter Try.func68, Try.ntmps68
    go_wp2
    go_ret
    exact ⟨by first | rfl | (simp; done) | (simp [*]; done), by repeat (first | exact Drawn0.refl _ | apply Drawn0.step)⟩
   ·rw [if_neg c4] at H
    have c4b0 : decide (a0 < 55296) = false := decide_eq_false c4
    clear c4
    obtain rfl := Option.some.inj H
    go_enter Try.func68, Try.ntmps68
    go_wp2
    go_ret
    exact ⟨by first | rfl | (simp; done) | (simp [*]; done), by repeat (first | exact Drawn0.refl _ | apply Drawn0.step)⟩
  ·rw [if_neg c3] at H
   have c3b0 : decide (a0 ≤ 1114111) = false := decide_eq_false c3
   clear c3
   obtain rfl := Option.some.inj H
   go_enter Try.func68, Try.ntmps68
   go_wp2
   go_ret
   exact ⟨by first | rfl | (simp; done) | (simp [*]; done), by repeat (first | exact Drawn0.refl _ | apply Drawn0.step)⟩
 ·rw [if_neg c2] at H
  have c2b0 : decide (0 ≤ a0) = false := decide_eq_false c2
  clear c2
  obtain rfl := Option.some.inj H
  go_enter Try.func68, Try.ntmps68
  go_wp2
  go_ret
  exact ⟨by first | rfl | (simp; done) | (simp [*]; done), by repeat (first | exact Drawn0.refl _ | apply Drawn0.step)⟩

/-! ### utf_Right: function 59 -/
def utf_Right.f (a0 : Int) : Option (Bool) := (utf_point.f a0).bind fun t104 => (if t104 = true then (some true) else (if a0 ≥ 1114240 then (some (decide (a0 ≤ 1114367))) else (some false)))
set_option maxHeartbeats 8000000 in
set_option maxRecDepth 100000 in
theorem utf_Right.calls (a0 : Int) (r : Bool) (w : World) (h : utf_Right.f a0 = some r) :
  Calls Try.prog 59 #[.int .i64 a0] w fun e w' => e = .returned (.bool r) ∧ Drawn0 w w' := by
 have H : ((utf_point.f a0).bind fun t104 => (if t104 = true then (some true) else (if a0 ≥ 1114240 then (some (decide (a0 ≤ 1114367))) else (some false)))) = some r := h
 clear h
 replace H := Option.bind_eq_some_iff.mp H
 obtain ⟨t104, A20, H⟩ := H
 replace H : (if t104 = true then (some true) else (if a0 ≥ 1114240 then (some (decide (a0 ≤ 1114367))) else (some false))) = some r := H
 have A2 := Aside0.mk A20
 clear A20
 by_cases c3 : t104 = true
 ·subst c3
  have H1 : (some true) = some r := by rw [if_pos rfl] at H; exact H
  clear H
  have H := H1
  clear H1
  obtain rfl := Option.some.inj H
  go_enter Try.func59, Try.ntmps59
  go_wp2_with (first | ((with_reducible refine gate_callee (f := 68) rfl ?_); refine goesL_ (some 4) rfl rfl Try.func68 (by kernel_rfl) rfl #[.int .i64 a0] rfl zl ?_; (with_reducible refine (utf_point.calls a0 true _ A2.out).mono ?_); rintro e w' ⟨rfl, ⟨nd, rfl⟩⟩; refine ⟨_, rfl, ?_⟩))
  go_ret
  exact ⟨by first | rfl | (simp; done) | (simp [*]; done), by repeat (first | exact Drawn0.refl _ | apply Drawn0.step)⟩
 ·replace c3 := Bool.eq_false_iff.mpr c3
  subst c3
  have H1 : (if a0 ≥ 1114240 then (some (decide (a0 ≤ 1114367))) else (some false)) = some r := by rw [if_neg (show ¬ (false = true) by decide)] at H; exact H
  clear H
  have H := H1
  clear H1
  by_cases c4 : a0 ≥ 1114240
  ·rw [if_pos c4] at H
   have c4b0 : decide (1114240 ≤ a0) = true := decide_eq_true c4
   clear c4
   obtain rfl := Option.some.inj H
   go_enter Try.func59, Try.ntmps59
   go_wp2_with (first | ((with_reducible refine gate_callee (f := 68) rfl ?_); refine goesL_ (some 4) rfl rfl Try.func68 (by kernel_rfl) rfl #[.int .i64 a0] rfl zl ?_; (with_reducible refine (utf_point.calls a0 false _ A2.out).mono ?_); rintro e w' ⟨rfl, ⟨nd, rfl⟩⟩; refine ⟨_, rfl, ?_⟩))
   go_ret
   exact ⟨by first | rfl | (simp; done) | (simp [*]; done), by repeat (first | exact Drawn0.refl _ | apply Drawn0.step)⟩
  ·rw [if_neg c4] at H
   have c4b0 : decide (1114240 ≤ a0) = false := decide_eq_false c4
   clear c4
   obtain rfl := Option.some.inj H
   go_enter Try.func59, Try.ntmps59
   go_wp2_with (first | ((with_reducible refine gate_callee (f := 68) rfl ?_); refine goesL_ (some 4) rfl rfl Try.func68 (by kernel_rfl) rfl #[.int .i64 a0] rfl zl ?_; (with_reducible refine (utf_point.calls a0 false _ A2.out).mono ?_); rintro e w' ⟨rfl, ⟨nd, rfl⟩⟩; refine ⟨_, rfl, ?_⟩))
   go_ret
   exact ⟨by first | rfl | (simp; done) | (simp [*]; done), by repeat (first | exact Drawn0.refl _ | apply Drawn0.step)⟩

/-! ### class_span: function 69 -/
def idx_span.g (p : S72 → Bool) : List S72 → Nat → Int
 | [], _ => -1
 | x :: xs, i => if p x = true then (i : Int) else idx_span.g p xs (i + 1)
theorem idx_span.g_drop (p : S72 → Bool) (l : List S72) (k : Nat) (h : k < l.length) : idx_span.g p (l.drop k) k = if p (rd_T72 l (k : Int)) = true then (k : Int) else idx_span.g p (l.drop (k + 1)) (k + 1) := by
 rw [List.drop_eq_getElem_cons h]
 have e : rd_T72 l (k : Int) = l[k] := by
  unfold rd_T72
  rw [Int.toNat_natCast, List.getD_eq_getElem?_getD, List.getElem?_eq_getElem h]
  rfl
 rw [e]
 rfl
theorem idx_span.mem (l : List S72) (k : Nat) (h : k < l.length) : rd_T72 l (k : Int) ∈ l := by
 have e : rd_T72 l (k : Int) = l[k] := by
  unfold rd_T72
  rw [Int.toNat_natCast, List.getD_eq_getElem?_getD, List.getElem?_eq_getElem h]
  rfl
 rw [e]
 exact List.getElem_mem h
theorem idx_span.g_ge (p : S72 → Bool) (l : List S72) : ∀ i : Nat, decide (idx_span.g p l i ≥ 0) = l.any p := by
 induction l with
 | nil => intro i; rfl
 | cons x xs ih =>
  intro i
  by_cases h : p x = true
  ·simp only [idx_span.g, if_pos h, List.any_cons, h, Bool.true_or]
   exact decide_eq_true (by omega : (i : Int) ≥ 0)
  ·simp only [idx_span.g, if_neg h, List.any_cons, ih (i + 1)]
   simp [h]
theorem idx_span.g_lt (p : S72 → Bool) (l : List S72) : ∀ i : Nat, idx_span.g p l i < (i : Int) + (l.length : Int) ∨ idx_span.g p l i = -1 := by
 induction l with
 | nil => intro i; exact .inr rfl
 | cons x xs ih =>
  intro i
  unfold idx_span.g
  split
  ·left; simp only [List.length_cons]; omega
  ·rcases ih (i + 1) with h | h
   ·left; simp only [List.length_cons]; omega
   ·exact .inr h
set_option maxHeartbeats 8000000 in
set_option maxRecDepth 100000 in
theorem idx_span.calls (p : S72 → Bool) (g : Nat) (lb : Array Value) (eg : ∀ args w, (callFunc g args).run Try.prog w = .ok (.enter g args) w)
  (A1 : Option Addr) (c1 : Nat) (l1 : List S72) (w : World) (hr1 : Kd.C k72 w A1 l1.length l1) (hl1 : l1.length < 9223372036854775807)
  (hp : ∀ (W : World) (x : S72), x ∈ l1 → Below w.heap.size w W → Calls Try.prog g (#[.agg #[.int .i64 x.f0, .int .i64 x.f1, .int .i64 x.f2]] ++ lb) W fun e w' => e = .returned (.bool (p x)) ∧ Below W.heap.size W w') :
  Calls Try.prog 69 #[.slice A1 l1.length c1, .func (.func g) #[] lb] w fun e w' => e = .returned (.int .i64 (idx_span.g p l1 0)) ∧ Below w.heap.size w w' := by
 have hu72 := Try.underlying72
 have HR1 := Aside0.mk hr1
 have HP := Aside0.mk hp
 clear hr1 hp
 generalize hn : l1.length = n at hl1 HR1 ⊢
 have HN := Aside0.mk hn
 clear hn
 go_enter Try.func69, Try.ntmps69
 go_wp2
 go_loopg [5, 8] n (fun gg _ s8 wr => ∃ kk : Nat, kk ≤ n ∧ n - kk ≤ gg ∧ s8 = .int .i64 kk ∧ Aside0 (Below w.heap.size w wr) ∧ Aside0 (idx_span.g p (l1.drop kk) kk = idx_span.g p l1 0))
 case atStart => exact ⟨0, Nat.zero_le _, by omega, rfl, ⟨Below.refl _ w⟩, ⟨by simp⟩⟩
 case round =>
  obtain ⟨kk, hkk, hg, rfl, BW, A⟩ := hrel
  by_cases hlt : kk < n
  ·have hltz : (kk : Int) < (n : Int) := by omega
   have hlen : kk < l1.length := by rw [HN.out]; exact hlt
   obtain ⟨ad, e0, hx0, hx1, hx2⟩ := at_T72 (Kd.C_below HR1.out BW.out) (kk : Int) (by omega) (by omega)
   cases e0
   have hgd := idx_span.g_drop p l1 kk hlen
   have hcall := HP.out wr (rd_T72 l1 (kk : Int)) (idx_span.mem l1 kk hlen) BW.out
   have hk0 : 0 ≤ (kk : Int) := by omega
   simp only [Int.toNat_natCast] at hx0 hx1 hx2
   generalize hy : rd_T72 l1 (kk : Int) = y at hcall hgd hx0 hx1 hx2
   clear hy
   cases hq : p y with
   | true =>
    rw [hq] at hcall
    have A2 : Aside0 (idx_span.g p l1 0 = (kk : Int)) := ⟨by rw [← A.out, hgd, if_pos hq]⟩
    clear A hgd hq hlen HP
    go_wp2_with fail
    refine hcall.mono ?_
    rintro e w' ⟨rfl, hb'⟩
    clear hcall hx0 hx1 hx2
    go_wp2_with fail
    go_ret
    exact ⟨by rw [A2.out]; rfl, below_then BW.out BW.out.size hb'⟩
   | false =>
    rw [hq] at hcall
    have A2 : Aside0 (idx_span.g p (l1.drop (kk + 1)) (kk + 1) = idx_span.g p l1 0) := ⟨by rw [← A.out, hgd, if_neg (by simp [hq])]⟩
    clear A hgd hq hlen HP
    go_wp2_with fail
    refine hcall.mono ?_
    rintro e w' ⟨rfl, hb'⟩
    clear hcall hx0 hx1 hx2
    go_wp2_with fail
    go_roundg (n - (kk + 1))
    case measure => omega
    case rel => exact ⟨kk + 1, by omega, by omega, by go_num, ⟨below_then BW.out BW.out.size hb'⟩, A2⟩
  ·have hltz : ¬ (kk : Int) < (n : Int) := by omega
   have : kk = n := by omega
   subst this
   have A2 : Aside0 (idx_span.g p l1 0 = -1) := ⟨by rw [← A.out, List.drop_eq_nil_of_le (by rw [HN.out]; exact Nat.le_refl _)]; rfl⟩
   clear A HP
   go_wp2
   go_ret
   exact ⟨by rw [A2.out]; rfl, BW.out⟩

-- NOT PRINTED: function 70 (class_in_1)

/-! ### class_in: function 60 -/
def class_in.p (v : Int) (s : S72) : Bool := decide (s.f0 ≤ v) && decide (v ≤ s.f1)
def class_in.f (a0 : Int) (l1 : List S72) : Option Int := if l1.length < 9223372036854775807 then (if idx_span.g (class_in.p a0) l1 0 < 0 then some 0 else some (rd_T72 l1 (idx_span.g (class_in.p a0) l1 0)).f2) else none
set_option maxHeartbeats 8000000 in
set_option maxRecDepth 100000 in
theorem class_in.pred (v : Int) (B : Nat) (w W : World) (x : S72) (hB : B < w.heap.size) (hcell : w.cell? ⟨B, 0, none⟩ = some (.int .i64 v)) (hb : Below w.heap.size w W) :
  Calls Try.prog 70 (#[.agg #[.int .i64 x.f0, .int .i64 x.f1, .int .i64 x.f2]] ++ #[.pointer (some ⟨B, 0, none⟩)]) W fun e w' => e = .returned (.bool (class_in.p v x)) ∧ Below W.heap.size W w' := by
 have hc : W.cell? ⟨B, 0, none⟩ = some (.int .i64 v) := (hb.cell (p := ⟨B, 0, none⟩) hB).trans hcell
 have hBW : B < W.heap.size := Nat.lt_of_lt_of_le hB hb.size
 have hne : B ≠ W.heap.size := by omega
 have hu := Try.underlying72
 clear hb hcell
 show Calls Try.prog 70 #[.agg #[.int .i64 x.f0, .int .i64 x.f1, .int .i64 x.f2], .pointer (some ⟨B, 0, none⟩)] W _
 by_cases h1 : x.f0 ≤ v
 ·by_cases h2 : v ≤ x.f1
  ·have e : Aside0 (class_in.p v x = true) := ⟨by simp [class_in.p, h1, h2]⟩
   go_enter Try.func70, Try.ntmps70
   go_wp2
   go_ret
   exact ⟨by rw [e.out]; first | rfl | simp [*], (Below.refl _ _).alloc (Nat.le_refl _) _⟩
  ·have e : Aside0 (class_in.p v x = false) := ⟨by simp [class_in.p, h2]⟩
   go_enter Try.func70, Try.ntmps70
   go_wp2
   go_ret
   exact ⟨by rw [e.out]; first | rfl | simp [*], (Below.refl _ _).alloc (Nat.le_refl _) _⟩
 ·have e : Aside0 (class_in.p v x = false) := ⟨by simp [class_in.p, h1]⟩
  go_enter Try.func70, Try.ntmps70
  go_wp2
  go_ret
  exact ⟨by rw [e.out]; first | rfl | simp [*], (Below.refl _ _).alloc (Nat.le_refl _) _⟩
set_option maxHeartbeats 8000000 in
set_option maxRecDepth 100000 in
theorem class_in.calls (a0 : Int) (A1 : Option Addr) (c1 : Nat) (l1 : List (S72)) (r : Int) (w : World) (hr1 : Kd.C k72 w A1 l1.length l1) (hc1 : l1.length ≤ c1) (h : class_in.f a0 l1 = some r) :
  Calls Try.prog 60 #[.int .i64 a0, .slice A1 l1.length c1] w fun e w' => e = .returned (.int .i64 r) ∧ Below w.heap.size w w' := by
 unfold class_in.f at h
 split at h
 case isFalse => cases h
 rename_i hl
 have hu := Try.underlying72
 have eg : ∀ args w, (callFunc 70 args).run Try.prog w = .ok (.enter 70 args) w := enters_of Try.func70 (by kernel_rfl) rfl
 have hcall := idx_span.calls (class_in.p a0) 70 #[.pointer (some ⟨w.heap.size, 0, none⟩)] eg A1 c1 l1 (w.alloc (.cells #[.int .i64 a0] 3)) (Kd.C_below hr1 (below_alloc (Below.refl _ _) _)) hl
  (fun W x _ hb => class_in.pred a0 w.heap.size _ W x (by simp) (by simp) hb)
 have HR1 := Aside0.mk hr1
 have hlt := idx_span.g_lt (class_in.p a0) l1 0
 clear hr1 eg
 generalize idx_span.g (class_in.p a0) l1 0 = i at hcall h hlt
 have HC := Aside0.mk hcall
 clear hcall
 split at h
 ·rename_i hi
  obtain rfl := Option.some.inj h
  clear h
  have hd : decide (i < 0) = true := decide_eq_true hi
  clear hi hlt
  go_enter Try.func60, Try.ntmps60
  go_wp2_with fail
  refine HC.out.mono ?_
  rintro e w' ⟨rfl, hb'⟩
  clear HC
  go_wp2_with fail
  go_ret
  exact ⟨rfl, ((Below.refl _ w).alloc (Nat.le_refl _) _).trans (hb'.mono (by simp))⟩
 ·rename_i hi
  obtain rfl := Option.some.inj h
  clear h
  have hd : decide (i < 0) = false := decide_eq_false hi
  have hi0 : 0 ≤ i := by omega
  have hi1 : i < (l1.length : Int) := by
   rcases hlt with h | h <;> omega
  clear hi hlt
  go_enter Try.func60, Try.ntmps60
  go_wp2_with fail
  refine HC.out.mono ?_
  rintro e w' ⟨rfl, hb'⟩
  clear HC
  have hB : Below w.heap.size w w' := ((Below.refl _ w).alloc (Nat.le_refl _) _).trans (hb'.mono (by simp))
  obtain ⟨ad, e0, hx0, hx1, hx2⟩ := at_T72 (Kd.C_below HR1.out hB) i hi0 hi1
  cases e0
  have HB := Aside0.mk hB
  clear hB hb' hx0 hx1
  go_wp2_with fail
  go_ret
  exact ⟨rfl, HB.out⟩

/-! ### class_spans: function 61 -/
def class_spans.f  : Option ((List (S72))) := some (([(⟨0, 31, 4⟩ : S72), (⟨127, 127, 5⟩ : S72), (⟨128, 159, 6⟩ : S72), (⟨160, 160, 10⟩ : S72), (⟨5760, 5760, 10⟩ : S72), (⟨8192, 8202, 10⟩ : S72), (⟨8232, 8233, 10⟩ : S72), (⟨8239, 8239, 10⟩ : S72), (⟨8287, 8287, 10⟩ : S72), (⟨12288, 12288, 10⟩ : S72), (⟨173, 173, 8⟩ : S72), (⟨6155, 6158, 8⟩ : S72), (⟨8203, 8205, 8⟩ : S72), (⟨8288, 8292, 8⟩ : S72), (⟨65279, 65279, 8⟩ : S72), (⟨65529, 65531, 8⟩ : S72), (⟨1564, 1564, 7⟩ : S72), (⟨8206, 8207, 7⟩ : S72), (⟨8234, 8238, 7⟩ : S72), (⟨8294, 8297, 7⟩ : S72), (⟨768, 879, 9⟩ : S72), (⟨1155, 1161, 9⟩ : S72), (⟨1425, 1469, 9⟩ : S72), (⟨1552, 1562, 9⟩ : S72), (⟨1611, 1631, 9⟩ : S72), (⟨1750, 1756, 9⟩ : S72), (⟨6832, 6862, 9⟩ : S72), (⟨7616, 7679, 9⟩ : S72), (⟨8400, 8432, 9⟩ : S72), (⟨12330, 12335, 9⟩ : S72), (⟨12441, 12442, 9⟩ : S72), (⟨65024, 65039, 9⟩ : S72), (⟨65056, 65071, 9⟩ : S72), (⟨57344, 63743, 11⟩ : S72), (⟨64976, 65007, 11⟩ : S72), (⟨65520, 65528, 11⟩ : S72), (⟨65534, 65535, 11⟩ : S72), (⟨131070, 131071, 11⟩ : S72), (⟨262142, 1114111, 11⟩ : S72)] : List (S72)))
set_option maxHeartbeats 8000000 in
set_option maxRecDepth 100000 in
theorem class_spans.calls  (r : List (S72)) (w : World) (h : class_spans.f  = some r) :
  Calls Try.prog 61 #[] w fun e w' => ∃ v0_ : Value, e = .returned (v0_) ∧ Kd.R k72 72 w' w.heap.size (fun _ => True) v0_ r ∧ Below w.heap.size w w' := by
 have hu72 := Try.underlying72
 have HB := Aside0.mk (Below.refl w.heap.size w)
 have H : (some (([(⟨0, 31, 4⟩ : S72), (⟨127, 127, 5⟩ : S72), (⟨128, 159, 6⟩ : S72), (⟨160, 160, 10⟩ : S72), (⟨5760, 5760, 10⟩ : S72), (⟨8192, 8202, 10⟩ : S72), (⟨8232, 8233, 10⟩ : S72), (⟨8239, 8239, 10⟩ : S72), (⟨8287, 8287, 10⟩ : S72), (⟨12288, 12288, 10⟩ : S72), (⟨173, 173, 8⟩ : S72), (⟨6155, 6158, 8⟩ : S72), (⟨8203, 8205, 8⟩ : S72), (⟨8288, 8292, 8⟩ : S72), (⟨65279, 65279, 8⟩ : S72), (⟨65529, 65531, 8⟩ : S72), (⟨1564, 1564, 7⟩ : S72), (⟨8206, 8207, 7⟩ : S72), (⟨8234, 8238, 7⟩ : S72), (⟨8294, 8297, 7⟩ : S72), (⟨768, 879, 9⟩ : S72), (⟨1155, 1161, 9⟩ : S72), (⟨1425, 1469, 9⟩ : S72), (⟨1552, 1562, 9⟩ : S72), (⟨1611, 1631, 9⟩ : S72), (⟨1750, 1756, 9⟩ : S72), (⟨6832, 6862, 9⟩ : S72), (⟨7616, 7679, 9⟩ : S72), (⟨8400, 8432, 9⟩ : S72), (⟨12330, 12335, 9⟩ : S72), (⟨12441, 12442, 9⟩ : S72), (⟨65024, 65039, 9⟩ : S72), (⟨65056, 65071, 9⟩ : S72), (⟨57344, 63743, 11⟩ : S72), (⟨64976, 65007, 11⟩ : S72), (⟨65520, 65528, 11⟩ : S72), (⟨65534, 65535, 11⟩ : S72), (⟨131070, 131071, 11⟩ : S72), (⟨262142, 1114111, 11⟩ : S72)] : List (S72)))) = some r := h
 clear h
 obtain ⟨y105, hy105⟩ : ∃ y_ : List (S72), y_ = (([(⟨0, 31, 4⟩ : S72), (⟨127, 127, 5⟩ : S72), (⟨128, 159, 6⟩ : S72), (⟨160, 160, 10⟩ : S72), (⟨5760, 5760, 10⟩ : S72), (⟨8192, 8202, 10⟩ : S72), (⟨8232, 8233, 10⟩ : S72), (⟨8239, 8239, 10⟩ : S72), (⟨8287, 8287, 10⟩ : S72), (⟨12288, 12288, 10⟩ : S72), (⟨173, 173, 8⟩ : S72), (⟨6155, 6158, 8⟩ : S72), (⟨8203, 8205, 8⟩ : S72), (⟨8288, 8292, 8⟩ : S72), (⟨65279, 65279, 8⟩ : S72), (⟨65529, 65531, 8⟩ : S72), (⟨1564, 1564, 7⟩ : S72), (⟨8206, 8207, 7⟩ : S72), (⟨8234, 8238, 7⟩ : S72), (⟨8294, 8297, 7⟩ : S72), (⟨768, 879, 9⟩ : S72), (⟨1155, 1161, 9⟩ : S72), (⟨1425, 1469, 9⟩ : S72), (⟨1552, 1562, 9⟩ : S72), (⟨1611, 1631, 9⟩ : S72), (⟨1750, 1756, 9⟩ : S72), (⟨6832, 6862, 9⟩ : S72), (⟨7616, 7679, 9⟩ : S72), (⟨8400, 8432, 9⟩ : S72), (⟨12330, 12335, 9⟩ : S72), (⟨12441, 12442, 9⟩ : S72), (⟨65024, 65039, 9⟩ : S72), (⟨65056, 65071, 9⟩ : S72), (⟨57344, 63743, 11⟩ : S72), (⟨64976, 65007, 11⟩ : S72), (⟨65520, 65528, 11⟩ : S72), (⟨65534, 65535, 11⟩ : S72), (⟨131070, 131071, 11⟩ : S72), (⟨262142, 1114111, 11⟩ : S72)] : List (S72))) := ⟨_, rfl⟩
 replace H : (some y105) = some r := by first | (rw [hy105]; with_reducible exact H) | (have H2_ := (Option.bind_some _ _).symm.trans H; rw [hy105]; with_reducible exact H2_) | (have H2_ := (Option.bind_some _ _).symm.trans H; with_reducible exact H2_) | with_reducible exact H | (rw [hy105]; exact H) | exact H
 have Ny105 := Aside0.mk hy105
 clear hy105
 obtain rfl := Option.some.inj H
 go_enter Try.func61, Try.ntmps61
 go_wp2_with (first | ((with_reducible refine gate_dst (N := 40) rfl ?_); refine Kd.R_lit k72 _ 72 ?hg (N := 40) ?hd (xs := ([(⟨0, 31, 4⟩ : S72), (⟨127, 127, 5⟩ : S72), (⟨128, 159, 6⟩ : S72), (⟨160, 160, 10⟩ : S72), (⟨5760, 5760, 10⟩ : S72), (⟨8192, 8202, 10⟩ : S72), (⟨8232, 8233, 10⟩ : S72), (⟨8239, 8239, 10⟩ : S72), (⟨8287, 8287, 10⟩ : S72), (⟨12288, 12288, 10⟩ : S72), (⟨173, 173, 8⟩ : S72), (⟨6155, 6158, 8⟩ : S72), (⟨8203, 8205, 8⟩ : S72), (⟨8288, 8292, 8⟩ : S72), (⟨65279, 65279, 8⟩ : S72), (⟨65529, 65531, 8⟩ : S72), (⟨1564, 1564, 7⟩ : S72), (⟨8206, 8207, 7⟩ : S72), (⟨8234, 8238, 7⟩ : S72), (⟨8294, 8297, 7⟩ : S72), (⟨768, 879, 9⟩ : S72), (⟨1155, 1161, 9⟩ : S72), (⟨1425, 1469, 9⟩ : S72), (⟨1552, 1562, 9⟩ : S72), (⟨1611, 1631, 9⟩ : S72), (⟨1750, 1756, 9⟩ : S72), (⟨6832, 6862, 9⟩ : S72), (⟨7616, 7679, 9⟩ : S72), (⟨8400, 8432, 9⟩ : S72), (⟨12330, 12335, 9⟩ : S72), (⟨12441, 12442, 9⟩ : S72), (⟨65024, 65039, 9⟩ : S72), (⟨65056, 65071, 9⟩ : S72), (⟨57344, 63743, 11⟩ : S72), (⟨64976, 65007, 11⟩ : S72), (⟨65520, 65528, 11⟩ : S72), (⟨65534, 65535, 11⟩ : S72), (⟨131070, 131071, 11⟩ : S72), (⟨262142, 1114111, 11⟩ : S72)] : List (S72))) (inner := [.int .i64 0, .int .i64 31, .int .i64 4, .int .i64 127, .int .i64 127, .int .i64 5, .int .i64 128, .int .i64 159, .int .i64 6, .int .i64 160, .int .i64 160, .int .i64 10, .int .i64 5760, .int .i64 5760, .int .i64 10, .int .i64 8192, .int .i64 8202, .int .i64 10, .int .i64 8232, .int .i64 8233, .int .i64 10, .int .i64 8239, .int .i64 8239, .int .i64 10, .int .i64 8287, .int .i64 8287, .int .i64 10, .int .i64 12288, .int .i64 12288, .int .i64 10, .int .i64 173, .int .i64 173, .int .i64 8, .int .i64 6155, .int .i64 6158, .int .i64 8, .int .i64 8203, .int .i64 8205, .int .i64 8, .int .i64 8288, .int .i64 8292, .int .i64 8, .int .i64 65279, .int .i64 65279, .int .i64 8, .int .i64 65529, .int .i64 65531, .int .i64 8, .int .i64 1564, .int .i64 1564, .int .i64 7, .int .i64 8206, .int .i64 8207, .int .i64 7, .int .i64 8234, .int .i64 8238, .int .i64 7, .int .i64 8294, .int .i64 8297, .int .i64 7, .int .i64 768, .int .i64 879, .int .i64 9, .int .i64 1155, .int .i64 1161, .int .i64 9, .int .i64 1425, .int .i64 1469, .int .i64 9, .int .i64 1552, .int .i64 1562, .int .i64 9, .int .i64 1611, .int .i64 1631, .int .i64 9, .int .i64 1750, .int .i64 1756, .int .i64 9, .int .i64 6832, .int .i64 6862, .int .i64 9, .int .i64 7616, .int .i64 7679, .int .i64 9, .int .i64 8400, .int .i64 8432, .int .i64 9, .int .i64 12330, .int .i64 12335, .int .i64 9, .int .i64 12441, .int .i64 12442, .int .i64 9, .int .i64 65024, .int .i64 65039, .int .i64 9, .int .i64 65056, .int .i64 65071, .int .i64 9, .int .i64 57344, .int .i64 63743, .int .i64 11, .int .i64 64976, .int .i64 65007, .int .i64 11, .int .i64 65520, .int .i64 65528, .int .i64 11, .int .i64 65534, .int .i64 65535, .int .i64 11, .int .i64 131070, .int .i64 131071, .int .i64 11, .int .i64 262142, .int .i64 1114111, .int .i64 11]) (ok := fun _ => True) (okp := fun _ => True) ?hr ?hp (fun _ hk => hk) trivial (Below.refl _ _) (Nat.le_refl _) (by simp) ?_; (case hd => rfl); (case hg => rfl); (case hr => first | (go_simp; done) | (go_simp; rfl)); (case hp => exact (Reps.c3 (show Kd.M k72 _ _ _ (⟨0, 31, 4⟩ : S72) [.int .i64 0, .int .i64 31, .int .i64 4] from (k72_mkM _ _ _ (⟨0, 31, 4⟩ : S72) )) (Reps.c3 (show Kd.M k72 _ _ _ (⟨127, 127, 5⟩ : S72) [.int .i64 127, .int .i64 127, .int .i64 5] from (k72_mkM _ _ _ (⟨127, 127, 5⟩ : S72) )) (Reps.c3 (show Kd.M k72 _ _ _ (⟨128, 159, 6⟩ : S72) [.int .i64 128, .int .i64 159, .int .i64 6] from (k72_mkM _ _ _ (⟨128, 159, 6⟩ : S72) )) (Reps.c3 (show Kd.M k72 _ _ _ (⟨160, 160, 10⟩ : S72) [.int .i64 160, .int .i64 160, .int .i64 10] from (k72_mkM _ _ _ (⟨160, 160, 10⟩ : S72) )) (Reps.c3 (show Kd.M k72 _ _ _ (⟨5760, 5760, 10⟩ : S72) [.int .i64 5760, .int .i64 5760, .int .i64 10] from (k72_mkM _ _ _ (⟨5760, 5760, 10⟩ : S72) )) (Reps.c3 (show Kd.M k72 _ _ _ (⟨8192, 8202, 10⟩ : S72) [.int .i64 8192, .int .i64 8202, .int .i64 10] from (k72_mkM _ _ _ (⟨8192, 8202, 10⟩ : S72) )) (Reps.c3 (show Kd.M k72 _ _ _ (⟨8232, 8233, 10⟩ : S72) [.int .i64 8232, .int .i64 8233, .int .i64 10] from (k72_mkM _ _ _ (⟨8232, 8233, 10⟩ : S72) )) (Reps.c3 (show Kd.M k72 _ _ _ (⟨8239, 8239, 10⟩ : S72) [.int .i64 8239, .int .i64 8239, .int .i64 10] from (k72_mkM _ _ _ (⟨8239, 8239, 10⟩ : S72) )) (Reps.c3 (show Kd.M k72 _ _ _ (⟨8287, 8287, 10⟩ : S72) [.int .i64 8287, .int .i64 8287, .int .i64 10] from (k72_mkM _ _ _ (⟨8287, 8287, 10⟩ : S72) )) (Reps.c3 (show Kd.M k72 _ _ _ (⟨12288, 12288, 10⟩ : S72) [.int .i64 12288, .int .i64 12288, .int .i64 10] from (k72_mkM _ _ _ (⟨12288, 12288, 10⟩ : S72) )) (Reps.c3 (show Kd.M k72 _ _ _ (⟨173, 173, 8⟩ : S72) [.int .i64 173, .int .i64 173, .int .i64 8] from (k72_mkM _ _ _ (⟨173, 173, 8⟩ : S72) )) (Reps.c3 (show Kd.M k72 _ _ _ (⟨6155, 6158, 8⟩ : S72) [.int .i64 6155, .int .i64 6158, .int .i64 8] from (k72_mkM _ _ _ (⟨6155, 6158, 8⟩ : S72) )) (Reps.c3 (show Kd.M k72 _ _ _ (⟨8203, 8205, 8⟩ : S72) [.int .i64 8203, .int .i64 8205, .int .i64 8] from (k72_mkM _ _ _ (⟨8203, 8205, 8⟩ : S72) )) (Reps.c3 (show Kd.M k72 _ _ _ (⟨8288, 8292, 8⟩ : S72) [.int .i64 8288, .int .i64 8292, .int .i64 8] from (k72_mkM _ _ _ (⟨8288, 8292, 8⟩ : S72) )) (Reps.c3 (show Kd.M k72 _ _ _ (⟨65279, 65279, 8⟩ : S72) [.int .i64 65279, .int .i64 65279, .int .i64 8] from (k72_mkM _ _ _ (⟨65279, 65279, 8⟩ : S72) )) (Reps.c3 (show Kd.M k72 _ _ _ (⟨65529, 65531, 8⟩ : S72) [.int .i64 65529, .int .i64 65531, .int .i64 8] from (k72_mkM _ _ _ (⟨65529, 65531, 8⟩ : S72) )) (Reps.c3 (show Kd.M k72 _ _ _ (⟨1564, 1564, 7⟩ : S72) [.int .i64 1564, .int .i64 1564, .int .i64 7] from (k72_mkM _ _ _ (⟨1564, 1564, 7⟩ : S72) )) (Reps.c3 (show Kd.M k72 _ _ _ (⟨8206, 8207, 7⟩ : S72) [.int .i64 8206, .int .i64 8207, .int .i64 7] from (k72_mkM _ _ _ (⟨8206, 8207, 7⟩ : S72) )) (Reps.c3 (show Kd.M k72 _ _ _ (⟨8234, 8238, 7⟩ : S72) [.int .i64 8234, .int .i64 8238, .int .i64 7] from (k72_mkM _ _ _ (⟨8234, 8238, 7⟩ : S72) )) (Reps.c3 (show Kd.M k72 _ _ _ (⟨8294, 8297, 7⟩ : S72) [.int .i64 8294, .int .i64 8297, .int .i64 7] from (k72_mkM _ _ _ (⟨8294, 8297, 7⟩ : S72) )) (Reps.c3 (show Kd.M k72 _ _ _ (⟨768, 879, 9⟩ : S72) [.int .i64 768, .int .i64 879, .int .i64 9] from (k72_mkM _ _ _ (⟨768, 879, 9⟩ : S72) )) (Reps.c3 (show Kd.M k72 _ _ _ (⟨1155, 1161, 9⟩ : S72) [.int .i64 1155, .int .i64 1161, .int .i64 9] from (k72_mkM _ _ _ (⟨1155, 1161, 9⟩ : S72) )) (Reps.c3 (show Kd.M k72 _ _ _ (⟨1425, 1469, 9⟩ : S72) [.int .i64 1425, .int .i64 1469, .int .i64 9] from (k72_mkM _ _ _ (⟨1425, 1469, 9⟩ : S72) )) (Reps.c3 (show Kd.M k72 _ _ _ (⟨1552, 1562, 9⟩ : S72) [.int .i64 1552, .int .i64 1562, .int .i64 9] from (k72_mkM _ _ _ (⟨1552, 1562, 9⟩ : S72) )) (Reps.c3 (show Kd.M k72 _ _ _ (⟨1611, 1631, 9⟩ : S72) [.int .i64 1611, .int .i64 1631, .int .i64 9] from (k72_mkM _ _ _ (⟨1611, 1631, 9⟩ : S72) )) (Reps.c3 (show Kd.M k72 _ _ _ (⟨1750, 1756, 9⟩ : S72) [.int .i64 1750, .int .i64 1756, .int .i64 9] from (k72_mkM _ _ _ (⟨1750, 1756, 9⟩ : S72) )) (Reps.c3 (show Kd.M k72 _ _ _ (⟨6832, 6862, 9⟩ : S72) [.int .i64 6832, .int .i64 6862, .int .i64 9] from (k72_mkM _ _ _ (⟨6832, 6862, 9⟩ : S72) )) (Reps.c3 (show Kd.M k72 _ _ _ (⟨7616, 7679, 9⟩ : S72) [.int .i64 7616, .int .i64 7679, .int .i64 9] from (k72_mkM _ _ _ (⟨7616, 7679, 9⟩ : S72) )) (Reps.c3 (show Kd.M k72 _ _ _ (⟨8400, 8432, 9⟩ : S72) [.int .i64 8400, .int .i64 8432, .int .i64 9] from (k72_mkM _ _ _ (⟨8400, 8432, 9⟩ : S72) )) (Reps.c3 (show Kd.M k72 _ _ _ (⟨12330, 12335, 9⟩ : S72) [.int .i64 12330, .int .i64 12335, .int .i64 9] from (k72_mkM _ _ _ (⟨12330, 12335, 9⟩ : S72) )) (Reps.c3 (show Kd.M k72 _ _ _ (⟨12441, 12442, 9⟩ : S72) [.int .i64 12441, .int .i64 12442, .int .i64 9] from (k72_mkM _ _ _ (⟨12441, 12442, 9⟩ : S72) )) (Reps.c3 (show Kd.M k72 _ _ _ (⟨65024, 65039, 9⟩ : S72) [.int .i64 65024, .int .i64 65039, .int .i64 9] from (k72_mkM _ _ _ (⟨65024, 65039, 9⟩ : S72) )) (Reps.c3 (show Kd.M k72 _ _ _ (⟨65056, 65071, 9⟩ : S72) [.int .i64 65056, .int .i64 65071, .int .i64 9] from (k72_mkM _ _ _ (⟨65056, 65071, 9⟩ : S72) )) (Reps.c3 (show Kd.M k72 _ _ _ (⟨57344, 63743, 11⟩ : S72) [.int .i64 57344, .int .i64 63743, .int .i64 11] from (k72_mkM _ _ _ (⟨57344, 63743, 11⟩ : S72) )) (Reps.c3 (show Kd.M k72 _ _ _ (⟨64976, 65007, 11⟩ : S72) [.int .i64 64976, .int .i64 65007, .int .i64 11] from (k72_mkM _ _ _ (⟨64976, 65007, 11⟩ : S72) )) (Reps.c3 (show Kd.M k72 _ _ _ (⟨65520, 65528, 11⟩ : S72) [.int .i64 65520, .int .i64 65528, .int .i64 11] from (k72_mkM _ _ _ (⟨65520, 65528, 11⟩ : S72) )) (Reps.c3 (show Kd.M k72 _ _ _ (⟨65534, 65535, 11⟩ : S72) [.int .i64 65534, .int .i64 65535, .int .i64 11] from (k72_mkM _ _ _ (⟨65534, 65535, 11⟩ : S72) )) (Reps.c3 (show Kd.M k72 _ _ _ (⟨131070, 131071, 11⟩ : S72) [.int .i64 131070, .int .i64 131071, .int .i64 11] from (k72_mkM _ _ _ (⟨131070, 131071, 11⟩ : S72) )) (Reps.c3 (show Kd.M k72 _ _ _ (⟨262142, 1114111, 11⟩ : S72) [.int .i64 262142, .int .i64 1114111, .int .i64 11] from (k72_mkM _ _ _ (⟨262142, 1114111, 11⟩ : S72) )) (Reps.none _ _))))))))))))))))))))))))))))))))))))))))); intro v106 w1 ho2 hb hg_ hnew_; clear hg_ hnew_; (first | rw [← Ny105.out] at ho2 | (simp only [Int.reduceToNat] at ho2; rw [← Ny105.out] at ho2)); have n0_ := Aside0.mk (Kd.R_lower ho2 (below_size zb)); have n1_ := Aside0.mk (below_step zb hb); clear HB; have HO107 := n0_; have HB := n1_; clear n0_ n1_; clear hb ho2))
 go_ret
 exact ⟨_, zr, by (with_reducible repeat (first | apply Kd.R_alloc | apply Kd.R_drewN | apply Kd.R_drew)); exact HO107.out, by repeat (first | (with_reducible first | exact HB.out | apply below_alloc | apply pw_below_drewN | apply below_drew1) | exact HB.out)⟩

/-! ### class_looks: function 71 -/
def class_looks.f  : Option ((List (S78))) := some (([(⟨913, 65⟩ : S78), (⟨914, 66⟩ : S78), (⟨917, 69⟩ : S78), (⟨918, 90⟩ : S78), (⟨919, 72⟩ : S78), (⟨921, 73⟩ : S78), (⟨922, 75⟩ : S78), (⟨924, 77⟩ : S78), (⟨925, 78⟩ : S78), (⟨927, 79⟩ : S78), (⟨929, 80⟩ : S78), (⟨932, 84⟩ : S78), (⟨933, 89⟩ : S78), (⟨935, 88⟩ : S78), (⟨957, 118⟩ : S78), (⟨959, 111⟩ : S78), (⟨961, 112⟩ : S78), (⟨1029, 83⟩ : S78), (⟨1030, 73⟩ : S78), (⟨1032, 74⟩ : S78), (⟨1040, 65⟩ : S78), (⟨1042, 66⟩ : S78), (⟨1045, 69⟩ : S78), (⟨1050, 75⟩ : S78), (⟨1052, 77⟩ : S78), (⟨1053, 72⟩ : S78), (⟨1054, 79⟩ : S78), (⟨1056, 80⟩ : S78), (⟨1057, 67⟩ : S78), (⟨1058, 84⟩ : S78), (⟨1061, 88⟩ : S78), (⟨1072, 97⟩ : S78), (⟨1077, 101⟩ : S78), (⟨1086, 111⟩ : S78), (⟨1088, 112⟩ : S78), (⟨1089, 99⟩ : S78), (⟨1091, 121⟩ : S78), (⟨1093, 120⟩ : S78), (⟨1109, 115⟩ : S78), (⟨1110, 105⟩ : S78), (⟨1112, 106⟩ : S78), (⟨1281, 100⟩ : S78), (⟨1307, 113⟩ : S78), (⟨1309, 119⟩ : S78), (⟨894, 59⟩ : S78), (⟨8208, 45⟩ : S78), (⟨8722, 45⟩ : S78), (⟨8260, 47⟩ : S78), (⟨8725, 47⟩ : S78), (⟨8228, 46⟩ : S78), (⟨8218, 44⟩ : S78)] : List (S78)))
set_option maxHeartbeats 8000000 in
set_option maxRecDepth 100000 in
theorem class_looks.calls  (r : List (S78)) (w : World) (h : class_looks.f  = some r) :
  Calls Try.prog 71 #[] w fun e w' => ∃ v0_ : Value, e = .returned (v0_) ∧ Kd.R k78 78 w' w.heap.size (fun _ => True) v0_ r ∧ Below w.heap.size w w' := by
 have hu78 := Try.underlying78
 have HB := Aside0.mk (Below.refl w.heap.size w)
 have H : (some (([(⟨913, 65⟩ : S78), (⟨914, 66⟩ : S78), (⟨917, 69⟩ : S78), (⟨918, 90⟩ : S78), (⟨919, 72⟩ : S78), (⟨921, 73⟩ : S78), (⟨922, 75⟩ : S78), (⟨924, 77⟩ : S78), (⟨925, 78⟩ : S78), (⟨927, 79⟩ : S78), (⟨929, 80⟩ : S78), (⟨932, 84⟩ : S78), (⟨933, 89⟩ : S78), (⟨935, 88⟩ : S78), (⟨957, 118⟩ : S78), (⟨959, 111⟩ : S78), (⟨961, 112⟩ : S78), (⟨1029, 83⟩ : S78), (⟨1030, 73⟩ : S78), (⟨1032, 74⟩ : S78), (⟨1040, 65⟩ : S78), (⟨1042, 66⟩ : S78), (⟨1045, 69⟩ : S78), (⟨1050, 75⟩ : S78), (⟨1052, 77⟩ : S78), (⟨1053, 72⟩ : S78), (⟨1054, 79⟩ : S78), (⟨1056, 80⟩ : S78), (⟨1057, 67⟩ : S78), (⟨1058, 84⟩ : S78), (⟨1061, 88⟩ : S78), (⟨1072, 97⟩ : S78), (⟨1077, 101⟩ : S78), (⟨1086, 111⟩ : S78), (⟨1088, 112⟩ : S78), (⟨1089, 99⟩ : S78), (⟨1091, 121⟩ : S78), (⟨1093, 120⟩ : S78), (⟨1109, 115⟩ : S78), (⟨1110, 105⟩ : S78), (⟨1112, 106⟩ : S78), (⟨1281, 100⟩ : S78), (⟨1307, 113⟩ : S78), (⟨1309, 119⟩ : S78), (⟨894, 59⟩ : S78), (⟨8208, 45⟩ : S78), (⟨8722, 45⟩ : S78), (⟨8260, 47⟩ : S78), (⟨8725, 47⟩ : S78), (⟨8228, 46⟩ : S78), (⟨8218, 44⟩ : S78)] : List (S78)))) = some r := h
 clear h
 obtain ⟨y108, hy108⟩ : ∃ y_ : List (S78), y_ = (([(⟨913, 65⟩ : S78), (⟨914, 66⟩ : S78), (⟨917, 69⟩ : S78), (⟨918, 90⟩ : S78), (⟨919, 72⟩ : S78), (⟨921, 73⟩ : S78), (⟨922, 75⟩ : S78), (⟨924, 77⟩ : S78), (⟨925, 78⟩ : S78), (⟨927, 79⟩ : S78), (⟨929, 80⟩ : S78), (⟨932, 84⟩ : S78), (⟨933, 89⟩ : S78), (⟨935, 88⟩ : S78), (⟨957, 118⟩ : S78), (⟨959, 111⟩ : S78), (⟨961, 112⟩ : S78), (⟨1029, 83⟩ : S78), (⟨1030, 73⟩ : S78), (⟨1032, 74⟩ : S78), (⟨1040, 65⟩ : S78), (⟨1042, 66⟩ : S78), (⟨1045, 69⟩ : S78), (⟨1050, 75⟩ : S78), (⟨1052, 77⟩ : S78), (⟨1053, 72⟩ : S78), (⟨1054, 79⟩ : S78), (⟨1056, 80⟩ : S78), (⟨1057, 67⟩ : S78), (⟨1058, 84⟩ : S78), (⟨1061, 88⟩ : S78), (⟨1072, 97⟩ : S78), (⟨1077, 101⟩ : S78), (⟨1086, 111⟩ : S78), (⟨1088, 112⟩ : S78), (⟨1089, 99⟩ : S78), (⟨1091, 121⟩ : S78), (⟨1093, 120⟩ : S78), (⟨1109, 115⟩ : S78), (⟨1110, 105⟩ : S78), (⟨1112, 106⟩ : S78), (⟨1281, 100⟩ : S78), (⟨1307, 113⟩ : S78), (⟨1309, 119⟩ : S78), (⟨894, 59⟩ : S78), (⟨8208, 45⟩ : S78), (⟨8722, 45⟩ : S78), (⟨8260, 47⟩ : S78), (⟨8725, 47⟩ : S78), (⟨8228, 46⟩ : S78), (⟨8218, 44⟩ : S78)] : List (S78))) := ⟨_, rfl⟩
 replace H : (some y108) = some r := by first | (rw [hy108]; with_reducible exact H) | (have H2_ := (Option.bind_some _ _).symm.trans H; rw [hy108]; with_reducible exact H2_) | (have H2_ := (Option.bind_some _ _).symm.trans H; with_reducible exact H2_) | with_reducible exact H | (rw [hy108]; exact H) | exact H
 have Ny108 := Aside0.mk hy108
 clear hy108
 obtain rfl := Option.some.inj H
 go_enter Try.func71, Try.ntmps71
 go_wp2_with (first | ((with_reducible refine gate_dst (N := 52) rfl ?_); refine Kd.R_lit k78 _ 78 ?hg (N := 52) ?hd (xs := ([(⟨913, 65⟩ : S78), (⟨914, 66⟩ : S78), (⟨917, 69⟩ : S78), (⟨918, 90⟩ : S78), (⟨919, 72⟩ : S78), (⟨921, 73⟩ : S78), (⟨922, 75⟩ : S78), (⟨924, 77⟩ : S78), (⟨925, 78⟩ : S78), (⟨927, 79⟩ : S78), (⟨929, 80⟩ : S78), (⟨932, 84⟩ : S78), (⟨933, 89⟩ : S78), (⟨935, 88⟩ : S78), (⟨957, 118⟩ : S78), (⟨959, 111⟩ : S78), (⟨961, 112⟩ : S78), (⟨1029, 83⟩ : S78), (⟨1030, 73⟩ : S78), (⟨1032, 74⟩ : S78), (⟨1040, 65⟩ : S78), (⟨1042, 66⟩ : S78), (⟨1045, 69⟩ : S78), (⟨1050, 75⟩ : S78), (⟨1052, 77⟩ : S78), (⟨1053, 72⟩ : S78), (⟨1054, 79⟩ : S78), (⟨1056, 80⟩ : S78), (⟨1057, 67⟩ : S78), (⟨1058, 84⟩ : S78), (⟨1061, 88⟩ : S78), (⟨1072, 97⟩ : S78), (⟨1077, 101⟩ : S78), (⟨1086, 111⟩ : S78), (⟨1088, 112⟩ : S78), (⟨1089, 99⟩ : S78), (⟨1091, 121⟩ : S78), (⟨1093, 120⟩ : S78), (⟨1109, 115⟩ : S78), (⟨1110, 105⟩ : S78), (⟨1112, 106⟩ : S78), (⟨1281, 100⟩ : S78), (⟨1307, 113⟩ : S78), (⟨1309, 119⟩ : S78), (⟨894, 59⟩ : S78), (⟨8208, 45⟩ : S78), (⟨8722, 45⟩ : S78), (⟨8260, 47⟩ : S78), (⟨8725, 47⟩ : S78), (⟨8228, 46⟩ : S78), (⟨8218, 44⟩ : S78)] : List (S78))) (inner := [.int .i64 913, .int .i64 65, .int .i64 914, .int .i64 66, .int .i64 917, .int .i64 69, .int .i64 918, .int .i64 90, .int .i64 919, .int .i64 72, .int .i64 921, .int .i64 73, .int .i64 922, .int .i64 75, .int .i64 924, .int .i64 77, .int .i64 925, .int .i64 78, .int .i64 927, .int .i64 79, .int .i64 929, .int .i64 80, .int .i64 932, .int .i64 84, .int .i64 933, .int .i64 89, .int .i64 935, .int .i64 88, .int .i64 957, .int .i64 118, .int .i64 959, .int .i64 111, .int .i64 961, .int .i64 112, .int .i64 1029, .int .i64 83, .int .i64 1030, .int .i64 73, .int .i64 1032, .int .i64 74, .int .i64 1040, .int .i64 65, .int .i64 1042, .int .i64 66, .int .i64 1045, .int .i64 69, .int .i64 1050, .int .i64 75, .int .i64 1052, .int .i64 77, .int .i64 1053, .int .i64 72, .int .i64 1054, .int .i64 79, .int .i64 1056, .int .i64 80, .int .i64 1057, .int .i64 67, .int .i64 1058, .int .i64 84, .int .i64 1061, .int .i64 88, .int .i64 1072, .int .i64 97, .int .i64 1077, .int .i64 101, .int .i64 1086, .int .i64 111, .int .i64 1088, .int .i64 112, .int .i64 1089, .int .i64 99, .int .i64 1091, .int .i64 121, .int .i64 1093, .int .i64 120, .int .i64 1109, .int .i64 115, .int .i64 1110, .int .i64 105, .int .i64 1112, .int .i64 106, .int .i64 1281, .int .i64 100, .int .i64 1307, .int .i64 113, .int .i64 1309, .int .i64 119, .int .i64 894, .int .i64 59, .int .i64 8208, .int .i64 45, .int .i64 8722, .int .i64 45, .int .i64 8260, .int .i64 47, .int .i64 8725, .int .i64 47, .int .i64 8228, .int .i64 46, .int .i64 8218, .int .i64 44]) (ok := fun _ => True) (okp := fun _ => True) ?hr ?hp (fun _ hk => hk) trivial (Below.refl _ _) (Nat.le_refl _) (by simp) ?_; (case hd => rfl); (case hg => rfl); (case hr => first | (go_simp; done) | (go_simp; rfl)); (case hp => exact (Reps.c2 (show Kd.M k78 _ _ _ (⟨913, 65⟩ : S78) [.int .i64 913, .int .i64 65] from (k78_mkM _ _ _ (⟨913, 65⟩ : S78) )) (Reps.c2 (show Kd.M k78 _ _ _ (⟨914, 66⟩ : S78) [.int .i64 914, .int .i64 66] from (k78_mkM _ _ _ (⟨914, 66⟩ : S78) )) (Reps.c2 (show Kd.M k78 _ _ _ (⟨917, 69⟩ : S78) [.int .i64 917, .int .i64 69] from (k78_mkM _ _ _ (⟨917, 69⟩ : S78) )) (Reps.c2 (show Kd.M k78 _ _ _ (⟨918, 90⟩ : S78) [.int .i64 918, .int .i64 90] from (k78_mkM _ _ _ (⟨918, 90⟩ : S78) )) (Reps.c2 (show Kd.M k78 _ _ _ (⟨919, 72⟩ : S78) [.int .i64 919, .int .i64 72] from (k78_mkM _ _ _ (⟨919, 72⟩ : S78) )) (Reps.c2 (show Kd.M k78 _ _ _ (⟨921, 73⟩ : S78) [.int .i64 921, .int .i64 73] from (k78_mkM _ _ _ (⟨921, 73⟩ : S78) )) (Reps.c2 (show Kd.M k78 _ _ _ (⟨922, 75⟩ : S78) [.int .i64 922, .int .i64 75] from (k78_mkM _ _ _ (⟨922, 75⟩ : S78) )) (Reps.c2 (show Kd.M k78 _ _ _ (⟨924, 77⟩ : S78) [.int .i64 924, .int .i64 77] from (k78_mkM _ _ _ (⟨924, 77⟩ : S78) )) (Reps.c2 (show Kd.M k78 _ _ _ (⟨925, 78⟩ : S78) [.int .i64 925, .int .i64 78] from (k78_mkM _ _ _ (⟨925, 78⟩ : S78) )) (Reps.c2 (show Kd.M k78 _ _ _ (⟨927, 79⟩ : S78) [.int .i64 927, .int .i64 79] from (k78_mkM _ _ _ (⟨927, 79⟩ : S78) )) (Reps.c2 (show Kd.M k78 _ _ _ (⟨929, 80⟩ : S78) [.int .i64 929, .int .i64 80] from (k78_mkM _ _ _ (⟨929, 80⟩ : S78) )) (Reps.c2 (show Kd.M k78 _ _ _ (⟨932, 84⟩ : S78) [.int .i64 932, .int .i64 84] from (k78_mkM _ _ _ (⟨932, 84⟩ : S78) )) (Reps.c2 (show Kd.M k78 _ _ _ (⟨933, 89⟩ : S78) [.int .i64 933, .int .i64 89] from (k78_mkM _ _ _ (⟨933, 89⟩ : S78) )) (Reps.c2 (show Kd.M k78 _ _ _ (⟨935, 88⟩ : S78) [.int .i64 935, .int .i64 88] from (k78_mkM _ _ _ (⟨935, 88⟩ : S78) )) (Reps.c2 (show Kd.M k78 _ _ _ (⟨957, 118⟩ : S78) [.int .i64 957, .int .i64 118] from (k78_mkM _ _ _ (⟨957, 118⟩ : S78) )) (Reps.c2 (show Kd.M k78 _ _ _ (⟨959, 111⟩ : S78) [.int .i64 959, .int .i64 111] from (k78_mkM _ _ _ (⟨959, 111⟩ : S78) )) (Reps.c2 (show Kd.M k78 _ _ _ (⟨961, 112⟩ : S78) [.int .i64 961, .int .i64 112] from (k78_mkM _ _ _ (⟨961, 112⟩ : S78) )) (Reps.c2 (show Kd.M k78 _ _ _ (⟨1029, 83⟩ : S78) [.int .i64 1029, .int .i64 83] from (k78_mkM _ _ _ (⟨1029, 83⟩ : S78) )) (Reps.c2 (show Kd.M k78 _ _ _ (⟨1030, 73⟩ : S78) [.int .i64 1030, .int .i64 73] from (k78_mkM _ _ _ (⟨1030, 73⟩ : S78) )) (Reps.c2 (show Kd.M k78 _ _ _ (⟨1032, 74⟩ : S78) [.int .i64 1032, .int .i64 74] from (k78_mkM _ _ _ (⟨1032, 74⟩ : S78) )) (Reps.c2 (show Kd.M k78 _ _ _ (⟨1040, 65⟩ : S78) [.int .i64 1040, .int .i64 65] from (k78_mkM _ _ _ (⟨1040, 65⟩ : S78) )) (Reps.c2 (show Kd.M k78 _ _ _ (⟨1042, 66⟩ : S78) [.int .i64 1042, .int .i64 66] from (k78_mkM _ _ _ (⟨1042, 66⟩ : S78) )) (Reps.c2 (show Kd.M k78 _ _ _ (⟨1045, 69⟩ : S78) [.int .i64 1045, .int .i64 69] from (k78_mkM _ _ _ (⟨1045, 69⟩ : S78) )) (Reps.c2 (show Kd.M k78 _ _ _ (⟨1050, 75⟩ : S78) [.int .i64 1050, .int .i64 75] from (k78_mkM _ _ _ (⟨1050, 75⟩ : S78) )) (Reps.c2 (show Kd.M k78 _ _ _ (⟨1052, 77⟩ : S78) [.int .i64 1052, .int .i64 77] from (k78_mkM _ _ _ (⟨1052, 77⟩ : S78) )) (Reps.c2 (show Kd.M k78 _ _ _ (⟨1053, 72⟩ : S78) [.int .i64 1053, .int .i64 72] from (k78_mkM _ _ _ (⟨1053, 72⟩ : S78) )) (Reps.c2 (show Kd.M k78 _ _ _ (⟨1054, 79⟩ : S78) [.int .i64 1054, .int .i64 79] from (k78_mkM _ _ _ (⟨1054, 79⟩ : S78) )) (Reps.c2 (show Kd.M k78 _ _ _ (⟨1056, 80⟩ : S78) [.int .i64 1056, .int .i64 80] from (k78_mkM _ _ _ (⟨1056, 80⟩ : S78) )) (Reps.c2 (show Kd.M k78 _ _ _ (⟨1057, 67⟩ : S78) [.int .i64 1057, .int .i64 67] from (k78_mkM _ _ _ (⟨1057, 67⟩ : S78) )) (Reps.c2 (show Kd.M k78 _ _ _ (⟨1058, 84⟩ : S78) [.int .i64 1058, .int .i64 84] from (k78_mkM _ _ _ (⟨1058, 84⟩ : S78) )) (Reps.c2 (show Kd.M k78 _ _ _ (⟨1061, 88⟩ : S78) [.int .i64 1061, .int .i64 88] from (k78_mkM _ _ _ (⟨1061, 88⟩ : S78) )) (Reps.c2 (show Kd.M k78 _ _ _ (⟨1072, 97⟩ : S78) [.int .i64 1072, .int .i64 97] from (k78_mkM _ _ _ (⟨1072, 97⟩ : S78) )) (Reps.c2 (show Kd.M k78 _ _ _ (⟨1077, 101⟩ : S78) [.int .i64 1077, .int .i64 101] from (k78_mkM _ _ _ (⟨1077, 101⟩ : S78) )) (Reps.c2 (show Kd.M k78 _ _ _ (⟨1086, 111⟩ : S78) [.int .i64 1086, .int .i64 111] from (k78_mkM _ _ _ (⟨1086, 111⟩ : S78) )) (Reps.c2 (show Kd.M k78 _ _ _ (⟨1088, 112⟩ : S78) [.int .i64 1088, .int .i64 112] from (k78_mkM _ _ _ (⟨1088, 112⟩ : S78) )) (Reps.c2 (show Kd.M k78 _ _ _ (⟨1089, 99⟩ : S78) [.int .i64 1089, .int .i64 99] from (k78_mkM _ _ _ (⟨1089, 99⟩ : S78) )) (Reps.c2 (show Kd.M k78 _ _ _ (⟨1091, 121⟩ : S78) [.int .i64 1091, .int .i64 121] from (k78_mkM _ _ _ (⟨1091, 121⟩ : S78) )) (Reps.c2 (show Kd.M k78 _ _ _ (⟨1093, 120⟩ : S78) [.int .i64 1093, .int .i64 120] from (k78_mkM _ _ _ (⟨1093, 120⟩ : S78) )) (Reps.c2 (show Kd.M k78 _ _ _ (⟨1109, 115⟩ : S78) [.int .i64 1109, .int .i64 115] from (k78_mkM _ _ _ (⟨1109, 115⟩ : S78) )) (Reps.c2 (show Kd.M k78 _ _ _ (⟨1110, 105⟩ : S78) [.int .i64 1110, .int .i64 105] from (k78_mkM _ _ _ (⟨1110, 105⟩ : S78) )) (Reps.c2 (show Kd.M k78 _ _ _ (⟨1112, 106⟩ : S78) [.int .i64 1112, .int .i64 106] from (k78_mkM _ _ _ (⟨1112, 106⟩ : S78) )) (Reps.c2 (show Kd.M k78 _ _ _ (⟨1281, 100⟩ : S78) [.int .i64 1281, .int .i64 100] from (k78_mkM _ _ _ (⟨1281, 100⟩ : S78) )) (Reps.c2 (show Kd.M k78 _ _ _ (⟨1307, 113⟩ : S78) [.int .i64 1307, .int .i64 113] from (k78_mkM _ _ _ (⟨1307, 113⟩ : S78) )) (Reps.c2 (show Kd.M k78 _ _ _ (⟨1309, 119⟩ : S78) [.int .i64 1309, .int .i64 119] from (k78_mkM _ _ _ (⟨1309, 119⟩ : S78) )) (Reps.c2 (show Kd.M k78 _ _ _ (⟨894, 59⟩ : S78) [.int .i64 894, .int .i64 59] from (k78_mkM _ _ _ (⟨894, 59⟩ : S78) )) (Reps.c2 (show Kd.M k78 _ _ _ (⟨8208, 45⟩ : S78) [.int .i64 8208, .int .i64 45] from (k78_mkM _ _ _ (⟨8208, 45⟩ : S78) )) (Reps.c2 (show Kd.M k78 _ _ _ (⟨8722, 45⟩ : S78) [.int .i64 8722, .int .i64 45] from (k78_mkM _ _ _ (⟨8722, 45⟩ : S78) )) (Reps.c2 (show Kd.M k78 _ _ _ (⟨8260, 47⟩ : S78) [.int .i64 8260, .int .i64 47] from (k78_mkM _ _ _ (⟨8260, 47⟩ : S78) )) (Reps.c2 (show Kd.M k78 _ _ _ (⟨8725, 47⟩ : S78) [.int .i64 8725, .int .i64 47] from (k78_mkM _ _ _ (⟨8725, 47⟩ : S78) )) (Reps.c2 (show Kd.M k78 _ _ _ (⟨8228, 46⟩ : S78) [.int .i64 8228, .int .i64 46] from (k78_mkM _ _ _ (⟨8228, 46⟩ : S78) )) (Reps.c2 (show Kd.M k78 _ _ _ (⟨8218, 44⟩ : S78) [.int .i64 8218, .int .i64 44] from (k78_mkM _ _ _ (⟨8218, 44⟩ : S78) )) (Reps.none _ _))))))))))))))))))))))))))))))))))))))))))))))))))))); intro v109 w1 ho2 hb hg_ hnew_; clear hg_ hnew_; (first | rw [← Ny108.out] at ho2 | (simp only [Int.reduceToNat] at ho2; rw [← Ny108.out] at ho2)); have n0_ := Aside0.mk (Kd.R_lower ho2 (below_size zb)); have n1_ := Aside0.mk (below_step zb hb); clear HB; have HO110 := n0_; have HB := n1_; clear n0_ n1_; clear hb ho2))
 go_ret
 exact ⟨_, zr, by (with_reducible repeat (first | apply Kd.R_alloc | apply Kd.R_drewN | apply Kd.R_drew)); exact HO110.out, by repeat (first | (with_reducible first | exact HB.out | apply below_alloc | apply pw_below_drewN | apply below_drew1) | exact HB.out)⟩

/-! ### class_look: function 72 -/
def idx_look.g (p : S78 → Bool) : List S78 → Nat → Int
 | [], _ => -1
 | x :: xs, i => if p x = true then (i : Int) else idx_look.g p xs (i + 1)
theorem idx_look.g_drop (p : S78 → Bool) (l : List S78) (k : Nat) (h : k < l.length) : idx_look.g p (l.drop k) k = if p (rd_T78 l (k : Int)) = true then (k : Int) else idx_look.g p (l.drop (k + 1)) (k + 1) := by
 rw [List.drop_eq_getElem_cons h]
 have e : rd_T78 l (k : Int) = l[k] := by
  unfold rd_T78
  rw [Int.toNat_natCast, List.getD_eq_getElem?_getD, List.getElem?_eq_getElem h]
  rfl
 rw [e]
 rfl
theorem idx_look.mem (l : List S78) (k : Nat) (h : k < l.length) : rd_T78 l (k : Int) ∈ l := by
 have e : rd_T78 l (k : Int) = l[k] := by
  unfold rd_T78
  rw [Int.toNat_natCast, List.getD_eq_getElem?_getD, List.getElem?_eq_getElem h]
  rfl
 rw [e]
 exact List.getElem_mem h
theorem idx_look.g_ge (p : S78 → Bool) (l : List S78) : ∀ i : Nat, decide (idx_look.g p l i ≥ 0) = l.any p := by
 induction l with
 | nil => intro i; rfl
 | cons x xs ih =>
  intro i
  by_cases h : p x = true
  ·simp only [idx_look.g, if_pos h, List.any_cons, h, Bool.true_or]
   exact decide_eq_true (by omega : (i : Int) ≥ 0)
  ·simp only [idx_look.g, if_neg h, List.any_cons, ih (i + 1)]
   simp [h]
theorem idx_look.g_lt (p : S78 → Bool) (l : List S78) : ∀ i : Nat, idx_look.g p l i < (i : Int) + (l.length : Int) ∨ idx_look.g p l i = -1 := by
 induction l with
 | nil => intro i; exact .inr rfl
 | cons x xs ih =>
  intro i
  unfold idx_look.g
  split
  ·left; simp only [List.length_cons]; omega
  ·rcases ih (i + 1) with h | h
   ·left; simp only [List.length_cons]; omega
   ·exact .inr h
set_option maxHeartbeats 8000000 in
set_option maxRecDepth 100000 in
theorem idx_look.calls (p : S78 → Bool) (g : Nat) (lb : Array Value) (eg : ∀ args w, (callFunc g args).run Try.prog w = .ok (.enter g args) w)
  (A1 : Option Addr) (c1 : Nat) (l1 : List S78) (w : World) (hr1 : Kd.C k78 w A1 l1.length l1) (hl1 : l1.length < 9223372036854775807)
  (hp : ∀ (W : World) (x : S78), x ∈ l1 → Below w.heap.size w W → Calls Try.prog g (#[.agg #[.int .i64 x.f0, .int .i64 x.f1]] ++ lb) W fun e w' => e = .returned (.bool (p x)) ∧ Below W.heap.size W w') :
  Calls Try.prog 72 #[.slice A1 l1.length c1, .func (.func g) #[] lb] w fun e w' => e = .returned (.int .i64 (idx_look.g p l1 0)) ∧ Below w.heap.size w w' := by
 have hu78 := Try.underlying78
 have HR1 := Aside0.mk hr1
 have HP := Aside0.mk hp
 clear hr1 hp
 generalize hn : l1.length = n at hl1 HR1 ⊢
 have HN := Aside0.mk hn
 clear hn
 go_enter Try.func72, Try.ntmps72
 go_wp2
 go_loopg [5, 8] n (fun gg _ s8 wr => ∃ kk : Nat, kk ≤ n ∧ n - kk ≤ gg ∧ s8 = .int .i64 kk ∧ Aside0 (Below w.heap.size w wr) ∧ Aside0 (idx_look.g p (l1.drop kk) kk = idx_look.g p l1 0))
 case atStart => exact ⟨0, Nat.zero_le _, by omega, rfl, ⟨Below.refl _ w⟩, ⟨by simp⟩⟩
 case round =>
  obtain ⟨kk, hkk, hg, rfl, BW, A⟩ := hrel
  by_cases hlt : kk < n
  ·have hltz : (kk : Int) < (n : Int) := by omega
   have hlen : kk < l1.length := by rw [HN.out]; exact hlt
   obtain ⟨ad, e0, hx0, hx1⟩ := at_T78 (Kd.C_below HR1.out BW.out) (kk : Int) (by omega) (by omega)
   cases e0
   have hgd := idx_look.g_drop p l1 kk hlen
   have hcall := HP.out wr (rd_T78 l1 (kk : Int)) (idx_look.mem l1 kk hlen) BW.out
   have hk0 : 0 ≤ (kk : Int) := by omega
   simp only [Int.toNat_natCast] at hx0 hx1
   generalize hy : rd_T78 l1 (kk : Int) = y at hcall hgd hx0 hx1
   clear hy
   cases hq : p y with
   | true =>
    rw [hq] at hcall
    have A2 : Aside0 (idx_look.g p l1 0 = (kk : Int)) := ⟨by rw [← A.out, hgd, if_pos hq]⟩
    clear A hgd hq hlen HP
    go_wp2_with fail
    refine hcall.mono ?_
    rintro e w' ⟨rfl, hb'⟩
    clear hcall hx0 hx1
    go_wp2_with fail
    go_ret
    exact ⟨by rw [A2.out]; rfl, below_then BW.out BW.out.size hb'⟩
   | false =>
    rw [hq] at hcall
    have A2 : Aside0 (idx_look.g p (l1.drop (kk + 1)) (kk + 1) = idx_look.g p l1 0) := ⟨by rw [← A.out, hgd, if_neg (by simp [hq])]⟩
    clear A hgd hq hlen HP
    go_wp2_with fail
    refine hcall.mono ?_
    rintro e w' ⟨rfl, hb'⟩
    clear hcall hx0 hx1
    go_wp2_with fail
    go_roundg (n - (kk + 1))
    case measure => omega
    case rel => exact ⟨kk + 1, by omega, by omega, by go_num, ⟨below_then BW.out BW.out.size hb'⟩, A2⟩
  ·have hltz : ¬ (kk : Int) < (n : Int) := by omega
   have : kk = n := by omega
   subst this
   have A2 : Aside0 (idx_look.g p l1 0 = -1) := ⟨by rw [← A.out, List.drop_eq_nil_of_le (by rw [HN.out]; exact Nat.le_refl _)]; rfl⟩
   clear A HP
   go_wp2
   go_ret
   exact ⟨by rw [A2.out]; rfl, BW.out⟩

-- NOT PRINTED: function 73 (class_Skeleton_1)

/-! ### class_Skeleton: function 62 -/
def class_Skeleton.p (v : Int) (s : S78) : Bool := s.f0 == v
def class_Skeleton.f (a0 : Int) : Option Int := (class_looks.f).bind fun l1 => if l1.length < 9223372036854775807 then (if idx_look.g (class_Skeleton.p a0) l1 0 < 0 then some a0 else some (rd_T78 l1 (idx_look.g (class_Skeleton.p a0) l1 0)).f1) else none
set_option maxHeartbeats 8000000 in
set_option maxRecDepth 100000 in
theorem class_Skeleton.pred (v : Int) (B : Nat) (w W : World) (x : S78) (hB : B < w.heap.size) (hcell : w.cell? ⟨B, 0, none⟩ = some (.int .i64 v)) (hb : Below w.heap.size w W) :
  Calls Try.prog 73 (#[.agg #[.int .i64 x.f0, .int .i64 x.f1]] ++ #[.pointer (some ⟨B, 0, none⟩)]) W fun e w' => e = .returned (.bool (class_Skeleton.p v x)) ∧ Below W.heap.size W w' := by
 have hc : W.cell? ⟨B, 0, none⟩ = some (.int .i64 v) := (hb.cell (p := ⟨B, 0, none⟩) hB).trans hcell
 have hBW : B < W.heap.size := Nat.lt_of_lt_of_le hB hb.size
 have hne : B ≠ W.heap.size := by omega
 have hu := Try.underlying78
 clear hb hcell
 show Calls Try.prog 73 #[.agg #[.int .i64 x.f0, .int .i64 x.f1], .pointer (some ⟨B, 0, none⟩)] W _
 have e : Aside0 (class_Skeleton.p v x = (x.f0 == v)) := ⟨rfl⟩
 go_enter Try.func73, Try.ntmps73
 go_wp2
 go_ret
 exact ⟨by rw [e.out]; rfl, (Below.refl _ _).alloc (Nat.le_refl _) _⟩
set_option maxHeartbeats 8000000 in
set_option maxRecDepth 100000 in
theorem class_Skeleton.calls (a0 : Int) (r : Int) (w : World) (h : class_Skeleton.f a0 = some r) :
  Calls Try.prog 62 #[.int .i64 a0] w fun e w' => e = .returned (.int .i64 r) ∧ Below w.heap.size w w' := by
 unfold class_Skeleton.f at h
 obtain ⟨l1, hl1, h⟩ := Option.bind_eq_some_iff.mp h
 split at h
 case isFalse => cases h
 rename_i hl
 have hu := Try.underlying78
 have eg : ∀ args w, (callFunc 73 args).run Try.prog w = .ok (.enter 73 args) w := enters_of Try.func73 (by kernel_rfl) rfl
 have HL := Aside0.mk (class_looks.calls l1 (w.alloc (.cells #[.int .i64 a0] 3)) hl1)
 have hlt := idx_look.g_lt (class_Skeleton.p a0) l1 0
 have HI := Aside0.mk (idx_look.calls (class_Skeleton.p a0) 73 #[.pointer (some ⟨w.heap.size, 0, none⟩)] eg)
 clear hl1 eg
 have HH := Aside0.mk h
 clear h
 go_enter Try.func62, Try.ntmps62
 go_wp2_with fail
 refine HL.out.mono ?_
 rintro e w1 ⟨v0, rfl, hR, hb1⟩
 clear HL
 obtain ⟨A, c, rfl, hc, hC⟩ := Kd.R_reads hR
 have hsz : w.heap.size < w1.heap.size := by have := hb1.size; simp at this; omega
 have hbox : w1.cell? ⟨w.heap.size, 0, none⟩ = some (.int .i64 a0) := (hb1.cell (p := ⟨w.heap.size, 0, none⟩) (by simp)).trans (by simp)
 have HI2 := Aside0.mk (HI.out A c l1 w1 hC hl (fun W x _ hb => class_Skeleton.pred a0 w.heap.size w1 W x hsz hbox hb))
 have HB1 : Aside0 (Below w.heap.size w w1) := ⟨((Below.refl _ w).alloc (Nat.le_refl _) _).trans (hb1.mono (by simp))⟩
 have HC := Aside0.mk hC
 have HX := Aside0.mk hbox
 clear HI hR hb1 hc hC hbox
 go_wp2_with fail
 refine HI2.out.mono ?_
 rintro e w2 ⟨rfl, hb2⟩
 clear HI2
 have HC2 := Aside0.mk (Kd.C_below HC.out hb2)
 have hx2 : w2.cell? ⟨w.heap.size, 0, none⟩ = some (.int .i64 a0) := (hb2.cell (p := ⟨w.heap.size, 0, none⟩) hsz).trans HX.out
 have HB2 : Aside0 (Below w.heap.size w w2) := ⟨below_then HB1.out HB1.out.size hb2⟩
 clear HC HX hb2 HB1
 generalize idx_look.g (class_Skeleton.p a0) l1 0 = i at hlt HH
 by_cases hi : i < 0
 ·have hd : decide (i < 0) = true := decide_eq_true hi
  have h := HH.out
  rw [if_pos hi] at h
  obtain rfl := Option.some.inj h
  clear h hi hlt
  go_wp2_with fail
  go_ret
  exact ⟨rfl, HB2.out⟩
 ·have hd : decide (i < 0) = false := decide_eq_false hi
  have hi0 : 0 ≤ i := by omega
  have hi1 : i < (l1.length : Int) := by
   rcases hlt with h | h <;> omega
  have h := HH.out
  rw [if_neg hi] at h
  obtain rfl := Option.some.inj h
  clear h hi hlt HH
  obtain ⟨ad, e0, hx0, hx1⟩ := at_T78 HC2.out i hi0 hi1
  cases e0
  clear hx0 hx2
  go_wp2_with fail
  go_ret
  exact ⟨rfl, HB2.out⟩

/-! ### class_wides: function 63 -/
def class_wides.f  : Option ((List (S72))) := some (([(⟨4352, 4447, 2⟩ : S72), (⟨8986, 8987, 2⟩ : S72), (⟨11904, 12287, 2⟩ : S72), (⟨12289, 12350, 2⟩ : S72), (⟨12353, 13311, 2⟩ : S72), (⟨13312, 19903, 2⟩ : S72), (⟨19968, 42191, 2⟩ : S72), (⟨43360, 43391, 2⟩ : S72), (⟨44032, 55203, 2⟩ : S72), (⟨63744, 64255, 2⟩ : S72), (⟨65072, 65135, 2⟩ : S72), (⟨65280, 65376, 2⟩ : S72), (⟨65504, 65510, 2⟩ : S72), (⟨127744, 128591, 2⟩ : S72), (⟨128640, 128767, 2⟩ : S72), (⟨129280, 129535, 2⟩ : S72), (⟨131072, 262141, 2⟩ : S72)] : List (S72)))
set_option maxHeartbeats 8000000 in
set_option maxRecDepth 100000 in
theorem class_wides.calls  (r : List (S72)) (w : World) (h : class_wides.f  = some r) :
  Calls Try.prog 63 #[] w fun e w' => ∃ v0_ : Value, e = .returned (v0_) ∧ Kd.R k72 72 w' w.heap.size (fun _ => True) v0_ r ∧ Below w.heap.size w w' := by
 have hu72 := Try.underlying72
 have HB := Aside0.mk (Below.refl w.heap.size w)
 have H : (some (([(⟨4352, 4447, 2⟩ : S72), (⟨8986, 8987, 2⟩ : S72), (⟨11904, 12287, 2⟩ : S72), (⟨12289, 12350, 2⟩ : S72), (⟨12353, 13311, 2⟩ : S72), (⟨13312, 19903, 2⟩ : S72), (⟨19968, 42191, 2⟩ : S72), (⟨43360, 43391, 2⟩ : S72), (⟨44032, 55203, 2⟩ : S72), (⟨63744, 64255, 2⟩ : S72), (⟨65072, 65135, 2⟩ : S72), (⟨65280, 65376, 2⟩ : S72), (⟨65504, 65510, 2⟩ : S72), (⟨127744, 128591, 2⟩ : S72), (⟨128640, 128767, 2⟩ : S72), (⟨129280, 129535, 2⟩ : S72), (⟨131072, 262141, 2⟩ : S72)] : List (S72)))) = some r := h
 clear h
 obtain ⟨y111, hy111⟩ : ∃ y_ : List (S72), y_ = (([(⟨4352, 4447, 2⟩ : S72), (⟨8986, 8987, 2⟩ : S72), (⟨11904, 12287, 2⟩ : S72), (⟨12289, 12350, 2⟩ : S72), (⟨12353, 13311, 2⟩ : S72), (⟨13312, 19903, 2⟩ : S72), (⟨19968, 42191, 2⟩ : S72), (⟨43360, 43391, 2⟩ : S72), (⟨44032, 55203, 2⟩ : S72), (⟨63744, 64255, 2⟩ : S72), (⟨65072, 65135, 2⟩ : S72), (⟨65280, 65376, 2⟩ : S72), (⟨65504, 65510, 2⟩ : S72), (⟨127744, 128591, 2⟩ : S72), (⟨128640, 128767, 2⟩ : S72), (⟨129280, 129535, 2⟩ : S72), (⟨131072, 262141, 2⟩ : S72)] : List (S72))) := ⟨_, rfl⟩
 replace H : (some y111) = some r := by first | (rw [hy111]; with_reducible exact H) | (have H2_ := (Option.bind_some _ _).symm.trans H; rw [hy111]; with_reducible exact H2_) | (have H2_ := (Option.bind_some _ _).symm.trans H; with_reducible exact H2_) | with_reducible exact H | (rw [hy111]; exact H) | exact H
 have Ny111 := Aside0.mk hy111
 clear hy111
 obtain rfl := Option.some.inj H
 go_enter Try.func63, Try.ntmps63
 go_wp2_with (first | ((with_reducible refine gate_dst (N := 18) rfl ?_); refine Kd.R_lit k72 _ 72 ?hg (N := 18) ?hd (xs := ([(⟨4352, 4447, 2⟩ : S72), (⟨8986, 8987, 2⟩ : S72), (⟨11904, 12287, 2⟩ : S72), (⟨12289, 12350, 2⟩ : S72), (⟨12353, 13311, 2⟩ : S72), (⟨13312, 19903, 2⟩ : S72), (⟨19968, 42191, 2⟩ : S72), (⟨43360, 43391, 2⟩ : S72), (⟨44032, 55203, 2⟩ : S72), (⟨63744, 64255, 2⟩ : S72), (⟨65072, 65135, 2⟩ : S72), (⟨65280, 65376, 2⟩ : S72), (⟨65504, 65510, 2⟩ : S72), (⟨127744, 128591, 2⟩ : S72), (⟨128640, 128767, 2⟩ : S72), (⟨129280, 129535, 2⟩ : S72), (⟨131072, 262141, 2⟩ : S72)] : List (S72))) (inner := [.int .i64 4352, .int .i64 4447, .int .i64 2, .int .i64 8986, .int .i64 8987, .int .i64 2, .int .i64 11904, .int .i64 12287, .int .i64 2, .int .i64 12289, .int .i64 12350, .int .i64 2, .int .i64 12353, .int .i64 13311, .int .i64 2, .int .i64 13312, .int .i64 19903, .int .i64 2, .int .i64 19968, .int .i64 42191, .int .i64 2, .int .i64 43360, .int .i64 43391, .int .i64 2, .int .i64 44032, .int .i64 55203, .int .i64 2, .int .i64 63744, .int .i64 64255, .int .i64 2, .int .i64 65072, .int .i64 65135, .int .i64 2, .int .i64 65280, .int .i64 65376, .int .i64 2, .int .i64 65504, .int .i64 65510, .int .i64 2, .int .i64 127744, .int .i64 128591, .int .i64 2, .int .i64 128640, .int .i64 128767, .int .i64 2, .int .i64 129280, .int .i64 129535, .int .i64 2, .int .i64 131072, .int .i64 262141, .int .i64 2]) (ok := fun _ => True) (okp := fun _ => True) ?hr ?hp (fun _ hk => hk) trivial (Below.refl _ _) (Nat.le_refl _) (by simp) ?_; (case hd => rfl); (case hg => rfl); (case hr => first | (go_simp; done) | (go_simp; rfl)); (case hp => exact (Reps.c3 (show Kd.M k72 _ _ _ (⟨4352, 4447, 2⟩ : S72) [.int .i64 4352, .int .i64 4447, .int .i64 2] from (k72_mkM _ _ _ (⟨4352, 4447, 2⟩ : S72) )) (Reps.c3 (show Kd.M k72 _ _ _ (⟨8986, 8987, 2⟩ : S72) [.int .i64 8986, .int .i64 8987, .int .i64 2] from (k72_mkM _ _ _ (⟨8986, 8987, 2⟩ : S72) )) (Reps.c3 (show Kd.M k72 _ _ _ (⟨11904, 12287, 2⟩ : S72) [.int .i64 11904, .int .i64 12287, .int .i64 2] from (k72_mkM _ _ _ (⟨11904, 12287, 2⟩ : S72) )) (Reps.c3 (show Kd.M k72 _ _ _ (⟨12289, 12350, 2⟩ : S72) [.int .i64 12289, .int .i64 12350, .int .i64 2] from (k72_mkM _ _ _ (⟨12289, 12350, 2⟩ : S72) )) (Reps.c3 (show Kd.M k72 _ _ _ (⟨12353, 13311, 2⟩ : S72) [.int .i64 12353, .int .i64 13311, .int .i64 2] from (k72_mkM _ _ _ (⟨12353, 13311, 2⟩ : S72) )) (Reps.c3 (show Kd.M k72 _ _ _ (⟨13312, 19903, 2⟩ : S72) [.int .i64 13312, .int .i64 19903, .int .i64 2] from (k72_mkM _ _ _ (⟨13312, 19903, 2⟩ : S72) )) (Reps.c3 (show Kd.M k72 _ _ _ (⟨19968, 42191, 2⟩ : S72) [.int .i64 19968, .int .i64 42191, .int .i64 2] from (k72_mkM _ _ _ (⟨19968, 42191, 2⟩ : S72) )) (Reps.c3 (show Kd.M k72 _ _ _ (⟨43360, 43391, 2⟩ : S72) [.int .i64 43360, .int .i64 43391, .int .i64 2] from (k72_mkM _ _ _ (⟨43360, 43391, 2⟩ : S72) )) (Reps.c3 (show Kd.M k72 _ _ _ (⟨44032, 55203, 2⟩ : S72) [.int .i64 44032, .int .i64 55203, .int .i64 2] from (k72_mkM _ _ _ (⟨44032, 55203, 2⟩ : S72) )) (Reps.c3 (show Kd.M k72 _ _ _ (⟨63744, 64255, 2⟩ : S72) [.int .i64 63744, .int .i64 64255, .int .i64 2] from (k72_mkM _ _ _ (⟨63744, 64255, 2⟩ : S72) )) (Reps.c3 (show Kd.M k72 _ _ _ (⟨65072, 65135, 2⟩ : S72) [.int .i64 65072, .int .i64 65135, .int .i64 2] from (k72_mkM _ _ _ (⟨65072, 65135, 2⟩ : S72) )) (Reps.c3 (show Kd.M k72 _ _ _ (⟨65280, 65376, 2⟩ : S72) [.int .i64 65280, .int .i64 65376, .int .i64 2] from (k72_mkM _ _ _ (⟨65280, 65376, 2⟩ : S72) )) (Reps.c3 (show Kd.M k72 _ _ _ (⟨65504, 65510, 2⟩ : S72) [.int .i64 65504, .int .i64 65510, .int .i64 2] from (k72_mkM _ _ _ (⟨65504, 65510, 2⟩ : S72) )) (Reps.c3 (show Kd.M k72 _ _ _ (⟨127744, 128591, 2⟩ : S72) [.int .i64 127744, .int .i64 128591, .int .i64 2] from (k72_mkM _ _ _ (⟨127744, 128591, 2⟩ : S72) )) (Reps.c3 (show Kd.M k72 _ _ _ (⟨128640, 128767, 2⟩ : S72) [.int .i64 128640, .int .i64 128767, .int .i64 2] from (k72_mkM _ _ _ (⟨128640, 128767, 2⟩ : S72) )) (Reps.c3 (show Kd.M k72 _ _ _ (⟨129280, 129535, 2⟩ : S72) [.int .i64 129280, .int .i64 129535, .int .i64 2] from (k72_mkM _ _ _ (⟨129280, 129535, 2⟩ : S72) )) (Reps.c3 (show Kd.M k72 _ _ _ (⟨131072, 262141, 2⟩ : S72) [.int .i64 131072, .int .i64 262141, .int .i64 2] from (k72_mkM _ _ _ (⟨131072, 262141, 2⟩ : S72) )) (Reps.none _ _))))))))))))))))))); intro v112 w1 ho2 hb hg_ hnew_; clear hg_ hnew_; (first | rw [← Ny111.out] at ho2 | (simp only [Int.reduceToNat] at ho2; rw [← Ny111.out] at ho2)); have n0_ := Aside0.mk (Kd.R_lower ho2 (below_size zb)); have n1_ := Aside0.mk (below_step zb hb); clear HB; have HO113 := n0_; have HB := n1_; clear n0_ n1_; clear hb ho2))
 go_ret
 exact ⟨_, zr, by (with_reducible repeat (first | apply Kd.R_alloc | apply Kd.R_drewN | apply Kd.R_drew)); exact HO113.out, by repeat (first | (with_reducible first | exact HB.out | apply below_alloc | apply pw_below_drewN | apply below_drew1) | exact HB.out)⟩

end Go.Proofs.Ytddkmhkglmcihaa.PAll
