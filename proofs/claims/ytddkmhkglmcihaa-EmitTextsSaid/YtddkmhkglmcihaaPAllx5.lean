-- Printed for this claim by the session's own program (wip/tool/hprint.py) over the kit's print; some functions' texts are the session's own.
import Derived.Test.YtddkmhkglmcihaaPAllx0
import Derived.Test.YtddkmhkglmcihaaPAllx4
namespace Go.Proofs.Ytddkmhkglmcihaa.PAll
open Go.RowKit Go.Proofs.YtddkmhkglmcihaaW.PrintWords Go.Proofs.YtddkmhkglmcihaaW.PrintLast Go.Proofs.YtddkmhkglmcihaaW.PrintMore
attribute [local go_sem] max2_int min2_int max_two min_two max_three min_three max_four min_four   -- for this text's walks alone
set_option linter.unusedVariables false
set_option linter.unusedSimpArgs false

/-! ### emit_looks: function 40 -/
def emit_looks.a : Nat → Nat → ByteArray
 | 0, 0 => ⟨#[48]⟩
 | 0, 1 => ⟨#[48]⟩
 | 0, 2 => ⟨#[48]⟩
 | 0, 3 => ⟨#[48]⟩
 | 1, 0 => ⟨#[48]⟩
 | 1, 1 => ⟨#[48, 59, 55]⟩
 | 1, 2 => ⟨#[48, 59, 55]⟩
 | 1, 3 => ⟨#[48, 59, 55]⟩
 | 2, 0 => ⟨#[48]⟩
 | 2, 1 => ⟨#[48]⟩
 | 2, 2 => ⟨#[48, 59, 52]⟩
 | 2, 3 => ⟨#[48, 59, 52]⟩
 | 3, 0 => ⟨#[48]⟩
 | 3, 1 => ⟨#[48, 59, 55]⟩
 | 3, 2 => ⟨#[48, 59, 55, 59, 52]⟩
 | 3, 3 => ⟨#[48, 59, 55, 59, 52]⟩
 | 4, 0 => ⟨#[48]⟩
 | 4, 1 => ⟨#[48]⟩
 | 4, 2 => ⟨#[48]⟩
 | 4, 3 => ⟨#[48, 59, 49]⟩
 | 5, 0 => ⟨#[48]⟩
 | 5, 1 => ⟨#[48, 59, 55]⟩
 | 5, 2 => ⟨#[48, 59, 55]⟩
 | 5, 3 => ⟨#[48, 59, 55, 59, 49]⟩
 | 6, 0 => ⟨#[48]⟩
 | 6, 1 => ⟨#[48]⟩
 | 6, 2 => ⟨#[48, 59, 52]⟩
 | 6, 3 => ⟨#[48, 59, 52, 59, 49]⟩
 | 7, 0 => ⟨#[48]⟩
 | 7, 1 => ⟨#[48, 59, 55]⟩
 | 7, 2 => ⟨#[48, 59, 55, 59, 52]⟩
 | 7, 3 => ⟨#[48, 59, 55, 59, 52, 59, 49]⟩
 | _, _ => ⟨#[]⟩
def emit_looks.t : Nat → ByteArray
 | 0 => ⟨#[48, 109]⟩
 | 1 => ⟨#[48, 59, 55, 109]⟩
 | 2 => ⟨#[48, 59, 52, 109]⟩
 | 3 => ⟨#[48, 59, 55, 59, 52, 109]⟩
 | 4 => ⟨#[48, 59, 49, 109]⟩
 | 5 => ⟨#[48, 59, 55, 59, 49, 109]⟩
 | 6 => ⟨#[48, 59, 52, 59, 49, 109]⟩
 | 7 => ⟨#[48, 59, 55, 59, 52, 59, 49, 109]⟩
 | _ => ⟨#[]⟩
def emit_looks.f (a0 : Int) : Option ByteArray := if 0 ≤ a0 then (if a0 ≤ 7 then some (emit_looks.t a0.toNat) else none) else none
theorem emit_looks.i0 (W : World) : (Instr.index 59 (.agg #[.string ⟨#[59, 55]⟩, .string ⟨#[59, 52]⟩, .string ⟨#[59, 49]⟩]) (.int .i64 0)).run Try.prog W = .ok (.string ⟨#[59, 55]⟩) W := by kernel_rfl
theorem emit_looks.i1 (W : World) : (Instr.index 59 (.agg #[.string ⟨#[59, 55]⟩, .string ⟨#[59, 52]⟩, .string ⟨#[59, 49]⟩]) (.int .i64 1)).run Try.prog W = .ok (.string ⟨#[59, 52]⟩) W := by kernel_rfl
theorem emit_looks.i2 (W : World) : (Instr.index 59 (.agg #[.string ⟨#[59, 55]⟩, .string ⟨#[59, 52]⟩, .string ⟨#[59, 49]⟩]) (.int .i64 2)).run Try.prog W = .ok (.string ⟨#[59, 49]⟩) W := by kernel_rfl
set_option maxHeartbeats 8000000 in
set_option maxRecDepth 100000 in
theorem emit_looks.calls (a0 : Int) (r : ByteArray) (w : World) (h : emit_looks.f a0 = some r) :
  Calls Try.prog 40 #[.int .i64 a0] w fun e w' => e = .returned (.string r) ∧ Drawn0 w w' := by
 unfold emit_looks.f at h
 split at h
 case isFalse => cases h
 split at h
 case isFalse => cases h
 have i0 := emit_looks.i0
 have i1 := emit_looks.i1
 have i2 := emit_looks.i2
 have hn8 : a0 = 0 ∨ a0 = 1 ∨ a0 = 2 ∨ a0 = 3 ∨ a0 = 4 ∨ a0 = 5 ∨ a0 = 6 ∨ a0 = 7 := by omega
 replace h := Option.some.inj h
 rcases hn8 with e | e | e | e | e | e | e | e
 ·subst e
  subst h
  show Calls Try.prog 40 #[.int .i64 0] w fun e w' => e = .returned (.string (emit_looks.t 0)) ∧ Drawn0 w w'
  go_enter Try.func40, Try.ntmps40
  go_wp2
  go_loopg [3, 7] 4 (fun gg v3 v7 wr => Aside0 (wr = w) ∧ ((gg = 4 ∧ v7 = .int .i64 0 ∧ v3 = .string (emit_looks.a 0 0)) ∨ (gg = 3 ∧ v7 = .int .i64 1 ∧ v3 = .string (emit_looks.a 0 1)) ∨ (gg = 2 ∧ v7 = .int .i64 2 ∧ v3 = .string (emit_looks.a 0 2)) ∨ (gg = 1 ∧ v7 = .int .i64 3 ∧ v3 = .string (emit_looks.a 0 3))))
  case atStart => exact ⟨⟨rfl⟩, .inl ⟨rfl, rfl, rfl⟩⟩
  case round =>
   obtain ⟨⟨rfl⟩, hr⟩ := hrel
   rcases hr with ⟨rfl, rfl, rfl⟩ | ⟨rfl, rfl, rfl⟩ | ⟨rfl, rfl, rfl⟩ | ⟨rfl, rfl, rfl⟩
   ·simp only [emit_looks.a]
    go_wp2
    go_roundg 3
    case measure => omega
    case rel => exact ⟨⟨rfl⟩, .inr (.inl ⟨rfl, rfl, rfl⟩)⟩
   ·simp only [emit_looks.a]
    go_wp2
    go_roundg 2
    case measure => omega
    case rel => exact ⟨⟨rfl⟩, .inr (.inr (.inl ⟨rfl, rfl, rfl⟩))⟩
   ·simp only [emit_looks.a]
    go_wp2
    go_roundg 1
    case measure => omega
    case rel => exact ⟨⟨rfl⟩, .inr (.inr (.inr ⟨rfl, rfl, rfl⟩))⟩
   ·simp only [emit_looks.a]
    go_wp2
    go_ret
    exact ⟨rfl, Drawn0.refl _⟩
 ·subst e
  subst h
  show Calls Try.prog 40 #[.int .i64 1] w fun e w' => e = .returned (.string (emit_looks.t 1)) ∧ Drawn0 w w'
  go_enter Try.func40, Try.ntmps40
  go_wp2
  go_loopg [3, 7] 4 (fun gg v3 v7 wr => Aside0 (wr = w) ∧ ((gg = 4 ∧ v7 = .int .i64 0 ∧ v3 = .string (emit_looks.a 1 0)) ∨ (gg = 3 ∧ v7 = .int .i64 1 ∧ v3 = .string (emit_looks.a 1 1)) ∨ (gg = 2 ∧ v7 = .int .i64 2 ∧ v3 = .string (emit_looks.a 1 2)) ∨ (gg = 1 ∧ v7 = .int .i64 3 ∧ v3 = .string (emit_looks.a 1 3))))
  case atStart => exact ⟨⟨rfl⟩, .inl ⟨rfl, rfl, rfl⟩⟩
  case round =>
   obtain ⟨⟨rfl⟩, hr⟩ := hrel
   rcases hr with ⟨rfl, rfl, rfl⟩ | ⟨rfl, rfl, rfl⟩ | ⟨rfl, rfl, rfl⟩ | ⟨rfl, rfl, rfl⟩
   ·simp only [emit_looks.a]
    go_wp2
    go_roundg 3
    case measure => omega
    case rel => exact ⟨⟨rfl⟩, .inr (.inl ⟨rfl, rfl, rfl⟩)⟩
   ·simp only [emit_looks.a]
    go_wp2
    go_roundg 2
    case measure => omega
    case rel => exact ⟨⟨rfl⟩, .inr (.inr (.inl ⟨rfl, rfl, rfl⟩))⟩
   ·simp only [emit_looks.a]
    go_wp2
    go_roundg 1
    case measure => omega
    case rel => exact ⟨⟨rfl⟩, .inr (.inr (.inr ⟨rfl, rfl, rfl⟩))⟩
   ·simp only [emit_looks.a]
    go_wp2
    go_ret
    exact ⟨rfl, Drawn0.refl _⟩
 ·subst e
  subst h
  show Calls Try.prog 40 #[.int .i64 2] w fun e w' => e = .returned (.string (emit_looks.t 2)) ∧ Drawn0 w w'
  go_enter Try.func40, Try.ntmps40
  go_wp2
  go_loopg [3, 7] 4 (fun gg v3 v7 wr => Aside0 (wr = w) ∧ ((gg = 4 ∧ v7 = .int .i64 0 ∧ v3 = .string (emit_looks.a 2 0)) ∨ (gg = 3 ∧ v7 = .int .i64 1 ∧ v3 = .string (emit_looks.a 2 1)) ∨ (gg = 2 ∧ v7 = .int .i64 2 ∧ v3 = .string (emit_looks.a 2 2)) ∨ (gg = 1 ∧ v7 = .int .i64 3 ∧ v3 = .string (emit_looks.a 2 3))))
  case atStart => exact ⟨⟨rfl⟩, .inl ⟨rfl, rfl, rfl⟩⟩
  case round =>
   obtain ⟨⟨rfl⟩, hr⟩ := hrel
   rcases hr with ⟨rfl, rfl, rfl⟩ | ⟨rfl, rfl, rfl⟩ | ⟨rfl, rfl, rfl⟩ | ⟨rfl, rfl, rfl⟩
   ·simp only [emit_looks.a]
    go_wp2
    go_roundg 3
    case measure => omega
    case rel => exact ⟨⟨rfl⟩, .inr (.inl ⟨rfl, rfl, rfl⟩)⟩
   ·simp only [emit_looks.a]
    go_wp2
    go_roundg 2
    case measure => omega
    case rel => exact ⟨⟨rfl⟩, .inr (.inr (.inl ⟨rfl, rfl, rfl⟩))⟩
   ·simp only [emit_looks.a]
    go_wp2
    go_roundg 1
    case measure => omega
    case rel => exact ⟨⟨rfl⟩, .inr (.inr (.inr ⟨rfl, rfl, rfl⟩))⟩
   ·simp only [emit_looks.a]
    go_wp2
    go_ret
    exact ⟨rfl, Drawn0.refl _⟩
 ·subst e
  subst h
  show Calls Try.prog 40 #[.int .i64 3] w fun e w' => e = .returned (.string (emit_looks.t 3)) ∧ Drawn0 w w'
  go_enter Try.func40, Try.ntmps40
  go_wp2
  go_loopg [3, 7] 4 (fun gg v3 v7 wr => Aside0 (wr = w) ∧ ((gg = 4 ∧ v7 = .int .i64 0 ∧ v3 = .string (emit_looks.a 3 0)) ∨ (gg = 3 ∧ v7 = .int .i64 1 ∧ v3 = .string (emit_looks.a 3 1)) ∨ (gg = 2 ∧ v7 = .int .i64 2 ∧ v3 = .string (emit_looks.a 3 2)) ∨ (gg = 1 ∧ v7 = .int .i64 3 ∧ v3 = .string (emit_looks.a 3 3))))
  case atStart => exact ⟨⟨rfl⟩, .inl ⟨rfl, rfl, rfl⟩⟩
  case round =>
   obtain ⟨⟨rfl⟩, hr⟩ := hrel
   rcases hr with ⟨rfl, rfl, rfl⟩ | ⟨rfl, rfl, rfl⟩ | ⟨rfl, rfl, rfl⟩ | ⟨rfl, rfl, rfl⟩
   ·simp only [emit_looks.a]
    go_wp2
    go_roundg 3
    case measure => omega
    case rel => exact ⟨⟨rfl⟩, .inr (.inl ⟨rfl, rfl, rfl⟩)⟩
   ·simp only [emit_looks.a]
    go_wp2
    go_roundg 2
    case measure => omega
    case rel => exact ⟨⟨rfl⟩, .inr (.inr (.inl ⟨rfl, rfl, rfl⟩))⟩
   ·simp only [emit_looks.a]
    go_wp2
    go_roundg 1
    case measure => omega
    case rel => exact ⟨⟨rfl⟩, .inr (.inr (.inr ⟨rfl, rfl, rfl⟩))⟩
   ·simp only [emit_looks.a]
    go_wp2
    go_ret
    exact ⟨rfl, Drawn0.refl _⟩
 ·subst e
  subst h
  show Calls Try.prog 40 #[.int .i64 4] w fun e w' => e = .returned (.string (emit_looks.t 4)) ∧ Drawn0 w w'
  go_enter Try.func40, Try.ntmps40
  go_wp2
  go_loopg [3, 7] 4 (fun gg v3 v7 wr => Aside0 (wr = w) ∧ ((gg = 4 ∧ v7 = .int .i64 0 ∧ v3 = .string (emit_looks.a 4 0)) ∨ (gg = 3 ∧ v7 = .int .i64 1 ∧ v3 = .string (emit_looks.a 4 1)) ∨ (gg = 2 ∧ v7 = .int .i64 2 ∧ v3 = .string (emit_looks.a 4 2)) ∨ (gg = 1 ∧ v7 = .int .i64 3 ∧ v3 = .string (emit_looks.a 4 3))))
  case atStart => exact ⟨⟨rfl⟩, .inl ⟨rfl, rfl, rfl⟩⟩
  case round =>
   obtain ⟨⟨rfl⟩, hr⟩ := hrel
   rcases hr with ⟨rfl, rfl, rfl⟩ | ⟨rfl, rfl, rfl⟩ | ⟨rfl, rfl, rfl⟩ | ⟨rfl, rfl, rfl⟩
   ·simp only [emit_looks.a]
    go_wp2
    go_roundg 3
    case measure => omega
    case rel => exact ⟨⟨rfl⟩, .inr (.inl ⟨rfl, rfl, rfl⟩)⟩
   ·simp only [emit_looks.a]
    go_wp2
    go_roundg 2
    case measure => omega
    case rel => exact ⟨⟨rfl⟩, .inr (.inr (.inl ⟨rfl, rfl, rfl⟩))⟩
   ·simp only [emit_looks.a]
    go_wp2
    go_roundg 1
    case measure => omega
    case rel => exact ⟨⟨rfl⟩, .inr (.inr (.inr ⟨rfl, rfl, rfl⟩))⟩
   ·simp only [emit_looks.a]
    go_wp2
    go_ret
    exact ⟨rfl, Drawn0.refl _⟩
 ·subst e
  subst h
  show Calls Try.prog 40 #[.int .i64 5] w fun e w' => e = .returned (.string (emit_looks.t 5)) ∧ Drawn0 w w'
  go_enter Try.func40, Try.ntmps40
  go_wp2
  go_loopg [3, 7] 4 (fun gg v3 v7 wr => Aside0 (wr = w) ∧ ((gg = 4 ∧ v7 = .int .i64 0 ∧ v3 = .string (emit_looks.a 5 0)) ∨ (gg = 3 ∧ v7 = .int .i64 1 ∧ v3 = .string (emit_looks.a 5 1)) ∨ (gg = 2 ∧ v7 = .int .i64 2 ∧ v3 = .string (emit_looks.a 5 2)) ∨ (gg = 1 ∧ v7 = .int .i64 3 ∧ v3 = .string (emit_looks.a 5 3))))
  case atStart => exact ⟨⟨rfl⟩, .inl ⟨rfl, rfl, rfl⟩⟩
  case round =>
   obtain ⟨⟨rfl⟩, hr⟩ := hrel
   rcases hr with ⟨rfl, rfl, rfl⟩ | ⟨rfl, rfl, rfl⟩ | ⟨rfl, rfl, rfl⟩ | ⟨rfl, rfl, rfl⟩
   ·simp only [emit_looks.a]
    go_wp2
    go_roundg 3
    case measure => omega
    case rel => exact ⟨⟨rfl⟩, .inr (.inl ⟨rfl, rfl, rfl⟩)⟩
   ·simp only [emit_looks.a]
    go_wp2
    go_roundg 2
    case measure => omega
    case rel => exact ⟨⟨rfl⟩, .inr (.inr (.inl ⟨rfl, rfl, rfl⟩))⟩
   ·simp only [emit_looks.a]
    go_wp2
    go_roundg 1
    case measure => omega
    case rel => exact ⟨⟨rfl⟩, .inr (.inr (.inr ⟨rfl, rfl, rfl⟩))⟩
   ·simp only [emit_looks.a]
    go_wp2
    go_ret
    exact ⟨rfl, Drawn0.refl _⟩
 ·subst e
  subst h
  show Calls Try.prog 40 #[.int .i64 6] w fun e w' => e = .returned (.string (emit_looks.t 6)) ∧ Drawn0 w w'
  go_enter Try.func40, Try.ntmps40
  go_wp2
  go_loopg [3, 7] 4 (fun gg v3 v7 wr => Aside0 (wr = w) ∧ ((gg = 4 ∧ v7 = .int .i64 0 ∧ v3 = .string (emit_looks.a 6 0)) ∨ (gg = 3 ∧ v7 = .int .i64 1 ∧ v3 = .string (emit_looks.a 6 1)) ∨ (gg = 2 ∧ v7 = .int .i64 2 ∧ v3 = .string (emit_looks.a 6 2)) ∨ (gg = 1 ∧ v7 = .int .i64 3 ∧ v3 = .string (emit_looks.a 6 3))))
  case atStart => exact ⟨⟨rfl⟩, .inl ⟨rfl, rfl, rfl⟩⟩
  case round =>
   obtain ⟨⟨rfl⟩, hr⟩ := hrel
   rcases hr with ⟨rfl, rfl, rfl⟩ | ⟨rfl, rfl, rfl⟩ | ⟨rfl, rfl, rfl⟩ | ⟨rfl, rfl, rfl⟩
   ·simp only [emit_looks.a]
    go_wp2
    go_roundg 3
    case measure => omega
    case rel => exact ⟨⟨rfl⟩, .inr (.inl ⟨rfl, rfl, rfl⟩)⟩
   ·simp only [emit_looks.a]
    go_wp2
    go_roundg 2
    case measure => omega
    case rel => exact ⟨⟨rfl⟩, .inr (.inr (.inl ⟨rfl, rfl, rfl⟩))⟩
   ·simp only [emit_looks.a]
    go_wp2
    go_roundg 1
    case measure => omega
    case rel => exact ⟨⟨rfl⟩, .inr (.inr (.inr ⟨rfl, rfl, rfl⟩))⟩
   ·simp only [emit_looks.a]
    go_wp2
    go_ret
    exact ⟨rfl, Drawn0.refl _⟩
 ·subst e
  subst h
  show Calls Try.prog 40 #[.int .i64 7] w fun e w' => e = .returned (.string (emit_looks.t 7)) ∧ Drawn0 w w'
  go_enter Try.func40, Try.ntmps40
  go_wp2
  go_loopg [3, 7] 4 (fun gg v3 v7 wr => Aside0 (wr = w) ∧ ((gg = 4 ∧ v7 = .int .i64 0 ∧ v3 = .string (emit_looks.a 7 0)) ∨ (gg = 3 ∧ v7 = .int .i64 1 ∧ v3 = .string (emit_looks.a 7 1)) ∨ (gg = 2 ∧ v7 = .int .i64 2 ∧ v3 = .string (emit_looks.a 7 2)) ∨ (gg = 1 ∧ v7 = .int .i64 3 ∧ v3 = .string (emit_looks.a 7 3))))
  case atStart => exact ⟨⟨rfl⟩, .inl ⟨rfl, rfl, rfl⟩⟩
  case round =>
   obtain ⟨⟨rfl⟩, hr⟩ := hrel
   rcases hr with ⟨rfl, rfl, rfl⟩ | ⟨rfl, rfl, rfl⟩ | ⟨rfl, rfl, rfl⟩ | ⟨rfl, rfl, rfl⟩
   ·simp only [emit_looks.a]
    go_wp2
    go_roundg 3
    case measure => omega
    case rel => exact ⟨⟨rfl⟩, .inr (.inl ⟨rfl, rfl, rfl⟩)⟩
   ·simp only [emit_looks.a]
    go_wp2
    go_roundg 2
    case measure => omega
    case rel => exact ⟨⟨rfl⟩, .inr (.inr (.inl ⟨rfl, rfl, rfl⟩))⟩
   ·simp only [emit_looks.a]
    go_wp2
    go_roundg 1
    case measure => omega
    case rel => exact ⟨⟨rfl⟩, .inr (.inr (.inr ⟨rfl, rfl, rfl⟩))⟩
   ·simp only [emit_looks.a]
    go_wp2
    go_ret
    exact ⟨rfl, Drawn0.refl _⟩

/-! ### emit_bytes: function 23 -/
def emit_bytes.f (a0_0 : Int) (a0_1 : Int) (a0_2 : Int) (a0_3 : ByteArray) : Option (ByteArray) := if a0_0 = 0 then (some a0_3) else (if a0_0 = 1 then ((num_Dec.f a0_1).bind fun t126 => (if 2 + t126.size ≤ 9223372036854775807 then (if ((⟨#[27, 91]⟩ : ByteArray) ++ t126).size + 1 ≤ 9223372036854775807 then ((num_Dec.f a0_2).bind fun t127 => (if (((⟨#[27, 91]⟩ : ByteArray) ++ t126) ++ (⟨#[59]⟩ : ByteArray)).size + t127.size ≤ 9223372036854775807 then (if ((((⟨#[27, 91]⟩ : ByteArray) ++ t126) ++ (⟨#[59]⟩ : ByteArray)) ++ t127).size + 1 ≤ 9223372036854775807 then (some (((((⟨#[27, 91]⟩ : ByteArray) ++ t126) ++ (⟨#[59]⟩ : ByteArray)) ++ t127) ++ (⟨#[72]⟩ : ByteArray))) else (none)) else (none))) else (none)) else (none))) else (if a0_0 = 2 then (some (⟨#[27, 91, 50, 74]⟩ : ByteArray)) else (if a0_0 = 3 then (some (⟨#[27, 91, 75]⟩ : ByteArray)) else (if a0_0 = 4 then ((emit_looks.f a0_1).bind fun t128 => (if 2 + t128.size ≤ 9223372036854775807 then (some ((⟨#[27, 91]⟩ : ByteArray) ++ t128)) else (none))) else (if a0_0 = 5 then (if 0 ≤ a0_1 then (if a0_1 ≤ (wrap64 (a0_1 + 1)) then (if (wrap64 (a0_1 + 1)) ≤ 2 then (if 7 + ((⟨#[108, 104]⟩ : ByteArray).extract (a0_1 : Int).toNat ((wrap64 (a0_1 + 1)) : Int).toNat).size ≤ 9223372036854775807 then (some ((⟨#[27, 91, 63, 50, 48, 48, 52]⟩ : ByteArray) ++ ((⟨#[108, 104]⟩ : ByteArray).extract (a0_1 : Int).toNat ((wrap64 (a0_1 + 1)) : Int).toNat))) else (none)) else (none)) else (none)) else (none)) else (if a0_0 = 6 then (some (⟨#[7]⟩ : ByteArray)) else (if a0_0 = 7 then (some (⟨#[13]⟩ : ByteArray)) else (some (⟨#[10]⟩ : ByteArray)))))))))
def emit_bytes.T5 : Bool × List (List Nat × List Nat) := (true, [([], []), ([0], [0]), ([1], [1]), ([2], [2]), ([3], [3]), ([], []), ([5], [5]), ([6, 2], [6]), ([4, 7], [4, 7]), ([8], [8]), ([9, 7, 0, 1, 2, 3, 4, 5, 6, 7, 8, 9], [9])])
def emit_bytes.B5 : List Nat := [0, 1, 3, 7, 15, 0, 32, 103, 255, 511, 1023]
theorem emit_bytes.tab5 : rtab .any (opsOf Try.f23 5) = emit_bytes.T5 := by kernel_rfl
theorem emit_bytes.bits5 : waitsOk emit_bytes.T5.2 emit_bytes.B5 = true := by kernel_rfl
set_option maxHeartbeats 8000000 in
set_option maxRecDepth 100000 in
theorem emit_bytes.calls (a0_0 : Int) (a0_1 : Int) (a0_2 : Int) (a0_3 : ByteArray) (r : ByteArray) (w : World) (h : emit_bytes.f a0_0 a0_1 a0_2 a0_3 = some r) :
  Calls Try.prog 23 #[.agg #[.int .i64 a0_0, .int .i64 a0_1, .int .i64 a0_2, .string a0_3]] w fun e w' => e = .returned (.string r) ∧ Below w.heap.size w w' := by
 have hu31 := Try.underlying31
 have HB := Aside0.mk (Below.refl w.heap.size w)
 have H : (if a0_0 = 0 then (some a0_3) else (if a0_0 = 1 then ((num_Dec.f a0_1).bind fun t126 => (if 2 + t126.size ≤ 9223372036854775807 then (if ((⟨#[27, 91]⟩ : ByteArray) ++ t126).size + 1 ≤ 9223372036854775807 then ((num_Dec.f a0_2).bind fun t127 => (if (((⟨#[27, 91]⟩ : ByteArray) ++ t126) ++ (⟨#[59]⟩ : ByteArray)).size + t127.size ≤ 9223372036854775807 then (if ((((⟨#[27, 91]⟩ : ByteArray) ++ t126) ++ (⟨#[59]⟩ : ByteArray)) ++ t127).size + 1 ≤ 9223372036854775807 then (some (((((⟨#[27, 91]⟩ : ByteArray) ++ t126) ++ (⟨#[59]⟩ : ByteArray)) ++ t127) ++ (⟨#[72]⟩ : ByteArray))) else (none)) else (none))) else (none)) else (none))) else (if a0_0 = 2 then (some (⟨#[27, 91, 50, 74]⟩ : ByteArray)) else (if a0_0 = 3 then (some (⟨#[27, 91, 75]⟩ : ByteArray)) else (if a0_0 = 4 then ((emit_looks.f a0_1).bind fun t128 => (if 2 + t128.size ≤ 9223372036854775807 then (some ((⟨#[27, 91]⟩ : ByteArray) ++ t128)) else (none))) else (if a0_0 = 5 then (if 0 ≤ a0_1 then (if a0_1 ≤ (wrap64 (a0_1 + 1)) then (if (wrap64 (a0_1 + 1)) ≤ 2 then (if 7 + ((⟨#[108, 104]⟩ : ByteArray).extract (a0_1 : Int).toNat ((wrap64 (a0_1 + 1)) : Int).toNat).size ≤ 9223372036854775807 then (some ((⟨#[27, 91, 63, 50, 48, 48, 52]⟩ : ByteArray) ++ ((⟨#[108, 104]⟩ : ByteArray).extract (a0_1 : Int).toNat ((wrap64 (a0_1 + 1)) : Int).toNat))) else (none)) else (none)) else (none)) else (none)) else (if a0_0 = 6 then (some (⟨#[7]⟩ : ByteArray)) else (if a0_0 = 7 then (some (⟨#[13]⟩ : ByteArray)) else (some (⟨#[10]⟩ : ByteArray)))))))))) = some r := h
 clear h
 by_cases c2 : a0_0 = 0
 ·rw [if_pos c2] at H
  have c2b0 : (a0_0 == 0) = true := beq_iff_eq.mpr c2
  have c2b1 : (a0_0 != 0) = false := bne_eq_false_iff_eq.mpr c2
  clear c2
  obtain rfl := Option.some.inj H
  go_enter Try.func23, Try.ntmps23
  go_wp2_with (first | ((with_reducible refine gate_dst (N := 1) rfl ?_); refine box_event ?hg (N := 1) ?hd (cs := #[.int .i64 a0_0, .int .i64 a0_1, .int .i64 a0_2, .string a0_3]) (t := 31) ?hr ?_; (case hd => rfl); (case hg => rfl); (case hr => first | (go_simp; done) | (go_simp; rfl)); intro gb125 hg w3 hbox hb; have n0_ := Aside0.mk (below_step zb hb); have n1_ := Aside0.mk (hbox); have n2_ := Aside0.mk ((by rw [hg]; exact (below_size zb) : w.heap.size ≤ gb125)); have n3_ := Aside0.mk ((by rw [hg]; exact (below_size zb) : w.heap.size ≤ gb125)); clear HB; have HB := n0_; have BK125 := n1_; have GW125 := n2_; have GE125 := n3_; clear n0_ n1_ n2_ n3_; clear hb hbox hg; have hcz4_0 : w3.cell? ⟨gb125, 0, none⟩ = some (.int .i64 a0_0) := (blk_cell BK125.out 0).trans rfl; have hcz4_1 : w3.cell? ⟨gb125, 1, none⟩ = some (.int .i64 a0_1) := (blk_cell BK125.out 1).trans rfl; have hcz4_2 : w3.cell? ⟨gb125, 2, none⟩ = some (.int .i64 a0_2) := (blk_cell BK125.out 2).trans rfl; have hcz4_3 : w3.cell? ⟨gb125, 3, none⟩ = some (.string a0_3) := (blk_cell BK125.out 3).trans rfl; have hfz4_0 := blk_frozen BK125.out 0; have hfz4_1 := blk_frozen BK125.out 1; have hfz4_2 := blk_frozen BK125.out 2; have hfz4_3 := blk_frozen BK125.out 3))
  go_ret
  exact ⟨zr, by repeat (first | (with_reducible first | exact HB.out | apply below_alloc | apply pw_below_drewN | apply below_drew1 | refine below_set ?_ GE125.out) | exact HB.out)⟩
 ·rw [if_neg c2] at H
  have c2b0 : (a0_0 == 0) = false := beq_eq_false_iff_ne.mpr c2
  have c2b1 : (a0_0 != 0) = true := bne_iff_ne.mpr c2
  by_cases c5 : a0_0 = 1
  ·rw [if_pos c5] at H
   have c5b0 : (a0_0 == 1) = true := beq_iff_eq.mpr c5
   have c5b1 : (a0_0 != 1) = false := bne_eq_false_iff_eq.mpr c5
   clear c5
   replace H := Option.bind_eq_some_iff.mp H
   obtain ⟨t126, A60, H⟩ := H
   replace H : (if 2 + t126.size ≤ 9223372036854775807 then (if ((⟨#[27, 91]⟩ : ByteArray) ++ t126).size + 1 ≤ 9223372036854775807 then ((num_Dec.f a0_2).bind fun t127 => (if (((⟨#[27, 91]⟩ : ByteArray) ++ t126) ++ (⟨#[59]⟩ : ByteArray)).size + t127.size ≤ 9223372036854775807 then (if ((((⟨#[27, 91]⟩ : ByteArray) ++ t126) ++ (⟨#[59]⟩ : ByteArray)) ++ t127).size + 1 ≤ 9223372036854775807 then (some (((((⟨#[27, 91]⟩ : ByteArray) ++ t126) ++ (⟨#[59]⟩ : ByteArray)) ++ t127) ++ (⟨#[72]⟩ : ByteArray))) else (none)) else (none))) else (none)) else (none)) = some r := H
   have A6 := Aside0.mk A60
   clear A60
   by_cases c7 : 2 + t126.size ≤ 9223372036854775807
   ·rw [if_pos c7] at H
    have c7b0 := eq_true c7
    have c7b1 : decide (2 + t126.size ≤ 9223372036854775807) = true := decide_eq_true c7
    try have c7b2 : (9223372036854775807 < 2 + t126.size) = False := eq_false (Nat.not_lt.2 c7)
    by_cases c8 : ((⟨#[27, 91]⟩ : ByteArray) ++ t126).size + 1 ≤ 9223372036854775807
    ·rw [if_pos c8] at H
     have c8b0 := eq_true c8
     have c8b1 : decide (((⟨#[27, 91]⟩ : ByteArray) ++ t126).size + 1 ≤ 9223372036854775807) = true := decide_eq_true c8
     try have c8b2 : (9223372036854775807 < ((⟨#[27, 91]⟩ : ByteArray) ++ t126).size + 1) = False := eq_false (Nat.not_lt.2 c8)
     try have c8b3 : (9223372036854775807 < 2 + t126.size + 1) = False := eq_false (by have h2_ := c8; simp only [ByteArray.size_append] at h2_; exact Nat.not_lt.2 h2_)
     replace H := Option.bind_eq_some_iff.mp H
     obtain ⟨t127, A90, H⟩ := H
     replace H : (if (((⟨#[27, 91]⟩ : ByteArray) ++ t126) ++ (⟨#[59]⟩ : ByteArray)).size + t127.size ≤ 9223372036854775807 then (if ((((⟨#[27, 91]⟩ : ByteArray) ++ t126) ++ (⟨#[59]⟩ : ByteArray)) ++ t127).size + 1 ≤ 9223372036854775807 then (some (((((⟨#[27, 91]⟩ : ByteArray) ++ t126) ++ (⟨#[59]⟩ : ByteArray)) ++ t127) ++ (⟨#[72]⟩ : ByteArray))) else (none)) else (none)) = some r := H
     have A9 := Aside0.mk A90
     clear A90
     by_cases c10 : (((⟨#[27, 91]⟩ : ByteArray) ++ t126) ++ (⟨#[59]⟩ : ByteArray)).size + t127.size ≤ 9223372036854775807
     ·rw [if_pos c10] at H
      have c10b0 := eq_true c10
      have c10b1 : decide ((((⟨#[27, 91]⟩ : ByteArray) ++ t126) ++ (⟨#[59]⟩ : ByteArray)).size + t127.size ≤ 9223372036854775807) = true := decide_eq_true c10
      try have c10b2 : (9223372036854775807 < (((⟨#[27, 91]⟩ : ByteArray) ++ t126) ++ (⟨#[59]⟩ : ByteArray)).size + t127.size) = False := eq_false (Nat.not_lt.2 c10)
      try have c10b3 : (9223372036854775807 < 2 + t126.size + 1 + t127.size) = False := eq_false (by have h2_ := c10; simp only [ByteArray.size_append] at h2_; exact Nat.not_lt.2 h2_)
      by_cases c11 : ((((⟨#[27, 91]⟩ : ByteArray) ++ t126) ++ (⟨#[59]⟩ : ByteArray)) ++ t127).size + 1 ≤ 9223372036854775807
      ·rw [if_pos c11] at H
       have c11b0 := eq_true c11
       have c11b1 : decide (((((⟨#[27, 91]⟩ : ByteArray) ++ t126) ++ (⟨#[59]⟩ : ByteArray)) ++ t127).size + 1 ≤ 9223372036854775807) = true := decide_eq_true c11
       try have c11b2 : (9223372036854775807 < ((((⟨#[27, 91]⟩ : ByteArray) ++ t126) ++ (⟨#[59]⟩ : ByteArray)) ++ t127).size + 1) = False := eq_false (Nat.not_lt.2 c11)
       try have c11b3 : (9223372036854775807 < 2 + t126.size + 1 + t127.size + 1) = False := eq_false (by have h2_ := c11; simp only [ByteArray.size_append] at h2_; exact Nat.not_lt.2 h2_)
       obtain rfl := Option.some.inj H
       go_enter Try.func23, Try.ntmps23
       try go_wp2_with (first | ((with_reducible refine gate_dst (N := 1) rfl ?_); refine box_event ?hg (N := 1) ?hd (cs := #[.int .i64 a0_0, .int .i64 a0_1, .int .i64 a0_2, .string a0_3]) (t := 31) ?hr ?_; (case hd => rfl); (case hg => rfl); (case hr => first | (go_simp; done) | (go_simp; rfl)); intro gb125 hg w12 hbox hb; have n0_ := Aside0.mk (below_step zb hb); have n1_ := Aside0.mk (hbox); have n2_ := Aside0.mk ((by rw [hg]; exact (below_size zb) : w.heap.size ≤ gb125)); have n3_ := Aside0.mk ((by rw [hg]; exact (below_size zb) : w.heap.size ≤ gb125)); clear HB; have HB := n0_; have BK125 := n1_; have GW125 := n2_; have GE125 := n3_; clear n0_ n1_ n2_ n3_; clear hb hbox hg; have hcz13_0 : w12.cell? ⟨gb125, 0, none⟩ = some (.int .i64 a0_0) := (blk_cell BK125.out 0).trans rfl; have hcz13_1 : w12.cell? ⟨gb125, 1, none⟩ = some (.int .i64 a0_1) := (blk_cell BK125.out 1).trans rfl; have hcz13_2 : w12.cell? ⟨gb125, 2, none⟩ = some (.int .i64 a0_2) := (blk_cell BK125.out 2).trans rfl; have hcz13_3 : w12.cell? ⟨gb125, 3, none⟩ = some (.string a0_3) := (blk_cell BK125.out 3).trans rfl; have hfz13_0 := blk_frozen BK125.out 0; have hfz13_1 := blk_frozen BK125.out 1; have hfz13_2 := blk_frozen BK125.out 2; have hfz13_3 := blk_frozen BK125.out 3))
       have n0_ := Aside0.mk (blk_drew BK125.out)
       have n1_ := Aside0.mk (below_drew1 HB.out)
       clear BK125
       clear HB
       have BK125 := n0_
       have HB := n1_
       clear n0_ n1_
       refine start_ (n := 11) (S := fun w' => w'.cell? ⟨gb125, 0, none⟩ = some (.int .i64 a0_0) ∧ w'.cell? ⟨gb125, 1, none⟩ = some (.int .i64 a0_1) ∧ w'.cell? ⟨gb125, 2, none⟩ = some (.int .i64 a0_2) ∧ w'.cell? ⟨gb125, 3, none⟩ = some (.string a0_3)) (ds := []) #[false, false, false, false, false, false, false, false, false, false, false] (by kernel_rfl) rfl rfl ⟨(blk_cell BK125.out 0).trans rfl, (blk_cell BK125.out 1).trans rfl, (blk_cell BK125.out 2).trans rfl, (blk_cell BK125.out 3).trans rfl⟩ (fun hHeld => ?_); refine with_tabW emit_bytes.tab5 emit_bytes.bits5 (fun HT_ HW_ => ?_)
       generalize w12.drew = w14 at BK125 HB hHeld ⊢
       refine pure_ (i := 0) (N := some 11) (v := ?_) (a' := ?_) #[true, false, false, false, false, false, false, false, false, false, false] rfl rfl (any_of HT_.out (by kernel_rfl)) (fun _ _ _ h => h) (Or.inl ⟨by rfl, ?_⟩) ?_ ?_
       rotate_left
       ·intro w'
        go_simp
        with_reducible rfl
       rotate_left
       ·simp only [Act.put, List.setIfInBounds_toArray, List.set_cons_zero, List.set_cons_succ, i64_w, i32_w]
        rfl
       refine pure_ (i := 5) (N := some 16) (v := ?_) (a' := ?_) #[true, false, false, false, false, true, false, false, false, false, false] rfl rfl (any_of HT_.out (by kernel_rfl)) (fun _ _ _ h => h) (Or.inl ⟨by rfl, ?_⟩) ?_ ?_
       rotate_left
       ·intro w'
        go_simp
        with_reducible rfl
       rotate_left
       ·simp only [Act.put, List.setIfInBounds_toArray, List.set_cons_zero, List.set_cons_succ, i64_w, i32_w]
        rfl
       refine take_ (i := 1) (N := some 12) (v := ?_) (a' := ?_) #[true, true, false, false, false, true, false, false, false, false, false] rfl rfl (take_ofW HT_.out HW_.out (by kernel_rfl)) (fun _ _ _ h => h) (Or.inl ⟨by rfl, ?_⟩) hHeld ?_ ?_
       rotate_left
       ·rintro w' ⟨s0, s1, s2, s3⟩
        go_simp
        with_reducible rfl
       rotate_left
       ·simp only [Act.put, List.setIfInBounds_toArray, List.set_cons_zero, List.set_cons_succ, i64_w, i32_w]
        rfl
       refine take_ (i := 6) (N := some 17) (v := ?_) (a' := ?_) #[true, true, false, false, false, true, true, false, false, false, false] rfl rfl (take_ofW HT_.out HW_.out (by kernel_rfl)) (fun _ _ _ h => h) (Or.inl ⟨by rfl, ?_⟩) hHeld ?_ ?_
       rotate_left
       ·rintro w' ⟨s0, s1, s2, s3⟩
        go_simp
        with_reducible rfl
       rotate_left
       ·simp only [Act.put, List.setIfInBounds_toArray, List.set_cons_zero, List.set_cons_succ, i64_w, i32_w]
        rfl
       refine one_ (i := 2) (N := some 13) #[true, true, true, false, false, true, true, false, false, false, false] rfl rfl (one_of HT_.out (by kernel_rfl)) (by decide) (fun K hK => ?_)
       refine goes_ Try.func39 (by kernel_rfl) rfl #[.int .i64 a0_1] (by rfl) rfl rfl zl ?_
       with_reducible refine (num_Dec.calls a0_1 t126 _ A6.out).mono ?_
       rintro e w15 ⟨rfl, hb⟩
       refine ⟨_, rfl, ?_⟩
       have n0_ := Aside0.mk (blk_below (g := gb125) (o := .cells #[.int .i64 a0_0, .int .i64 a0_1, .int .i64 a0_2, .string a0_3] 31 (0, 0)) (zj BK125.out) hb)
       have n1_ := Aside0.mk (below_step (by repeat (first | (with_reducible first | exact HB.out | apply below_alloc | apply pw_below_drewN | apply below_drew1 | refine below_set ?_ GE125.out) | exact HB.out)) hb)
       clear BK125
       clear HB
       have BK125 := n0_
       have HB := n1_
       clear n0_ n1_
       (try clear hb)
       (try clear hb2)
       (try clear hk)
       (try clear hi)
       refine hK.out _ _ ⟨(blk_cell BK125.out 0).trans rfl, (blk_cell BK125.out 1).trans rfl, (blk_cell BK125.out 2).trans rfl, (blk_cell BK125.out 3).trans rfl⟩ (fun hHeld => ?_)
       clear hK K
       refine norm_ (a' := ?_) ?_ ?_
       rotate_left
       ·show Act.put _ (some 13) _ = _
        simp only [Act.put, List.setIfInBounds_toArray, List.set_cons_zero, List.set_cons_succ, i64_w, i32_w]
        rfl
       refine pure_ (i := 3) (N := some 14) (v := ?_) (a' := ?_) #[true, true, true, true, false, true, true, false, false, false, false] rfl rfl (any_of HT_.out (by kernel_rfl)) (fun _ _ _ h => h) (Or.inl ⟨by rfl, ?_⟩) ?_ ?_
       rotate_left
       ·intro w'
        go_simp
        with_reducible rfl
       rotate_left
       ·simp only [Act.put, List.setIfInBounds_toArray, List.set_cons_zero, List.set_cons_succ, i64_w, i32_w]
        rfl
       refine pure_ (i := 4) (N := some 15) (v := ?_) (a' := ?_) #[true, true, true, true, true, true, true, false, false, false, false] rfl rfl (any_of HT_.out (by kernel_rfl)) (fun _ _ _ h => h) (Or.inl ⟨by rfl, ?_⟩) ?_ ?_
       rotate_left
       ·intro w'
        go_simp
        with_reducible rfl
       rotate_left
       ·simp only [Act.put, List.setIfInBounds_toArray, List.set_cons_zero, List.set_cons_succ, i64_w, i32_w]
        rfl
       refine one_ (i := 7) (N := some 18) #[true, true, true, true, true, true, true, true, false, false, false] rfl rfl (one_of HT_.out (by kernel_rfl)) (by decide) (fun K hK => ?_)
       refine goes_ Try.func39 (by kernel_rfl) rfl #[.int .i64 a0_2] (by rfl) rfl rfl zl ?_
       with_reducible refine (num_Dec.calls a0_2 t127 _ A9.out).mono ?_
       rintro e w16 ⟨rfl, hb⟩
       refine ⟨_, rfl, ?_⟩
       have n0_ := Aside0.mk (blk_below (g := gb125) (o := .cells #[.int .i64 a0_0, .int .i64 a0_1, .int .i64 a0_2, .string a0_3] 31 (0, 0)) (zj BK125.out) hb)
       have n1_ := Aside0.mk (below_step (by repeat (first | (with_reducible first | exact HB.out | apply below_alloc | apply pw_below_drewN | apply below_drew1 | refine below_set ?_ GE125.out) | exact HB.out)) hb)
       clear BK125
       clear HB
       have BK125 := n0_
       have HB := n1_
       clear n0_ n1_
       (try clear hb)
       (try clear hb2)
       (try clear hk)
       (try clear hi)
       refine hK.out _ _ ⟨(blk_cell BK125.out 0).trans rfl, (blk_cell BK125.out 1).trans rfl, (blk_cell BK125.out 2).trans rfl, (blk_cell BK125.out 3).trans rfl⟩ (fun hHeld => ?_)
       clear hK K
       refine norm_ (a' := ?_) ?_ ?_
       rotate_left
       ·show Act.put _ (some 18) _ = _
        simp only [Act.put, List.setIfInBounds_toArray, List.set_cons_zero, List.set_cons_succ, i64_w, i32_w]
        rfl
       refine pure_ (i := 8) (N := some 19) (v := ?_) (a' := ?_) #[true, true, true, true, true, true, true, true, true, false, false] rfl rfl (any_of HT_.out (by kernel_rfl)) (fun _ _ _ h => h) (Or.inl ⟨by rfl, ?_⟩) ?_ ?_
       rotate_left
       ·intro w'
        go_simp
        with_reducible rfl
       rotate_left
       ·simp only [Act.put, List.setIfInBounds_toArray, List.set_cons_zero, List.set_cons_succ, i64_w, i32_w]
        rfl
       refine pure_ (i := 9) (N := some 20) (v := ?_) (a' := ?_) #[true, true, true, true, true, true, true, true, true, true, false] rfl rfl (any_of HT_.out (by kernel_rfl)) (fun _ _ _ h => h) (Or.inl ⟨by rfl, ?_⟩) ?_ ?_
       rotate_left
       ·intro w'
        go_simp
        with_reducible rfl
       rotate_left
       ·simp only [Act.put, List.setIfInBounds_toArray, List.set_cons_zero, List.set_cons_succ, i64_w, i32_w]
        rfl
       refine pure_ (i := 10) (N := some 2) (v := ?_) (a' := ?_) #[true, true, true, true, true, true, true, true, true, true, true] rfl rfl (any_of HT_.out (by kernel_rfl)) (fun _ _ _ h => h) (Or.inl ⟨by rfl, ?_⟩) ?_ ?_
       rotate_left
       ·intro w'
        go_simp
        with_reducible rfl
       rotate_left
       ·simp only [Act.put, List.setIfInBounds_toArray, List.set_cons_zero, List.set_cons_succ, i64_w, i32_w]
        rfl
       refine done_ (done_of HT_.out (by kernel_rfl)) ?_
       try go_wp2
       go_ret
       exact ⟨zr, by repeat (first | (with_reducible first | exact HB.out | apply below_alloc | apply pw_below_drewN | apply below_drew1 | refine below_set ?_ GE125.out) | exact HB.out)⟩
      ·rw [if_neg c11] at H
       exact absurd H (by simp)
     ·rw [if_neg c10] at H
      exact absurd H (by simp)
    ·rw [if_neg c8] at H
     exact absurd H (by simp)
   ·rw [if_neg c7] at H
    exact absurd H (by simp)
  ·rw [if_neg c5] at H
   have c5b0 : (a0_0 == 1) = false := beq_eq_false_iff_ne.mpr c5
   have c5b1 : (a0_0 != 1) = true := bne_iff_ne.mpr c5
   by_cases c17 : a0_0 = 2
   ·rw [if_pos c17] at H
    have c17b0 : (a0_0 == 2) = true := beq_iff_eq.mpr c17
    have c17b1 : (a0_0 != 2) = false := bne_eq_false_iff_eq.mpr c17
    clear c17
    obtain rfl := Option.some.inj H
    go_enter Try.func23, Try.ntmps23
    go_wp2_with (first | ((with_reducible refine gate_dst (N := 1) rfl ?_); refine box_event ?hg (N := 1) ?hd (cs := #[.int .i64 a0_0, .int .i64 a0_1, .int .i64 a0_2, .string a0_3]) (t := 31) ?hr ?_; (case hd => rfl); (case hg => rfl); (case hr => first | (go_simp; done) | (go_simp; rfl)); intro gb125 hg w18 hbox hb; have n0_ := Aside0.mk (below_step zb hb); have n1_ := Aside0.mk (hbox); have n2_ := Aside0.mk ((by rw [hg]; exact (below_size zb) : w.heap.size ≤ gb125)); have n3_ := Aside0.mk ((by rw [hg]; exact (below_size zb) : w.heap.size ≤ gb125)); clear HB; have HB := n0_; have BK125 := n1_; have GW125 := n2_; have GE125 := n3_; clear n0_ n1_ n2_ n3_; clear hb hbox hg; have hcz19_0 : w18.cell? ⟨gb125, 0, none⟩ = some (.int .i64 a0_0) := (blk_cell BK125.out 0).trans rfl; have hcz19_1 : w18.cell? ⟨gb125, 1, none⟩ = some (.int .i64 a0_1) := (blk_cell BK125.out 1).trans rfl; have hcz19_2 : w18.cell? ⟨gb125, 2, none⟩ = some (.int .i64 a0_2) := (blk_cell BK125.out 2).trans rfl; have hcz19_3 : w18.cell? ⟨gb125, 3, none⟩ = some (.string a0_3) := (blk_cell BK125.out 3).trans rfl; have hfz19_0 := blk_frozen BK125.out 0; have hfz19_1 := blk_frozen BK125.out 1; have hfz19_2 := blk_frozen BK125.out 2; have hfz19_3 := blk_frozen BK125.out 3))
    go_ret
    exact ⟨zr, by repeat (first | (with_reducible first | exact HB.out | apply below_alloc | apply pw_below_drewN | apply below_drew1 | refine below_set ?_ GE125.out) | exact HB.out)⟩
   ·rw [if_neg c17] at H
    have c17b0 : (a0_0 == 2) = false := beq_eq_false_iff_ne.mpr c17
    have c17b1 : (a0_0 != 2) = true := bne_iff_ne.mpr c17
    by_cases c20 : a0_0 = 3
    ·rw [if_pos c20] at H
     have c20b0 : (a0_0 == 3) = true := beq_iff_eq.mpr c20
     have c20b1 : (a0_0 != 3) = false := bne_eq_false_iff_eq.mpr c20
     clear c20
     obtain rfl := Option.some.inj H
     go_enter Try.func23, Try.ntmps23
     go_wp2_with (first | ((with_reducible refine gate_dst (N := 1) rfl ?_); refine box_event ?hg (N := 1) ?hd (cs := #[.int .i64 a0_0, .int .i64 a0_1, .int .i64 a0_2, .string a0_3]) (t := 31) ?hr ?_; (case hd => rfl); (case hg => rfl); (case hr => first | (go_simp; done) | (go_simp; rfl)); intro gb125 hg w21 hbox hb; have n0_ := Aside0.mk (below_step zb hb); have n1_ := Aside0.mk (hbox); have n2_ := Aside0.mk ((by rw [hg]; exact (below_size zb) : w.heap.size ≤ gb125)); have n3_ := Aside0.mk ((by rw [hg]; exact (below_size zb) : w.heap.size ≤ gb125)); clear HB; have HB := n0_; have BK125 := n1_; have GW125 := n2_; have GE125 := n3_; clear n0_ n1_ n2_ n3_; clear hb hbox hg; have hcz22_0 : w21.cell? ⟨gb125, 0, none⟩ = some (.int .i64 a0_0) := (blk_cell BK125.out 0).trans rfl; have hcz22_1 : w21.cell? ⟨gb125, 1, none⟩ = some (.int .i64 a0_1) := (blk_cell BK125.out 1).trans rfl; have hcz22_2 : w21.cell? ⟨gb125, 2, none⟩ = some (.int .i64 a0_2) := (blk_cell BK125.out 2).trans rfl; have hcz22_3 : w21.cell? ⟨gb125, 3, none⟩ = some (.string a0_3) := (blk_cell BK125.out 3).trans rfl; have hfz22_0 := blk_frozen BK125.out 0; have hfz22_1 := blk_frozen BK125.out 1; have hfz22_2 := blk_frozen BK125.out 2; have hfz22_3 := blk_frozen BK125.out 3))
     go_ret
     exact ⟨zr, by repeat (first | (with_reducible first | exact HB.out | apply below_alloc | apply pw_below_drewN | apply below_drew1 | refine below_set ?_ GE125.out) | exact HB.out)⟩
    ·rw [if_neg c20] at H
     have c20b0 : (a0_0 == 3) = false := beq_eq_false_iff_ne.mpr c20
     have c20b1 : (a0_0 != 3) = true := bne_iff_ne.mpr c20
     by_cases c23 : a0_0 = 4
     ·rw [if_pos c23] at H
      have c23b0 : (a0_0 == 4) = true := beq_iff_eq.mpr c23
      have c23b1 : (a0_0 != 4) = false := bne_eq_false_iff_eq.mpr c23
      clear c23
      replace H := Option.bind_eq_some_iff.mp H
      obtain ⟨t128, A240, H⟩ := H
      replace H : (if 2 + t128.size ≤ 9223372036854775807 then (some ((⟨#[27, 91]⟩ : ByteArray) ++ t128)) else (none)) = some r := H
      have A24 := Aside0.mk A240
      clear A240
      by_cases c25 : 2 + t128.size ≤ 9223372036854775807
      ·rw [if_pos c25] at H
       have c25b0 := eq_true c25
       have c25b1 : decide (2 + t128.size ≤ 9223372036854775807) = true := decide_eq_true c25
       try have c25b2 : (9223372036854775807 < 2 + t128.size) = False := eq_false (Nat.not_lt.2 c25)
       obtain rfl := Option.some.inj H
       go_enter Try.func23, Try.ntmps23
       go_wp2_with (first | ((with_reducible refine gate_dst (N := 1) rfl ?_); refine box_event ?hg (N := 1) ?hd (cs := #[.int .i64 a0_0, .int .i64 a0_1, .int .i64 a0_2, .string a0_3]) (t := 31) ?hr ?_; (case hd => rfl); (case hg => rfl); (case hr => first | (go_simp; done) | (go_simp; rfl)); intro gb125 hg w26 hbox hb; have n0_ := Aside0.mk (below_step zb hb); have n1_ := Aside0.mk (hbox); have n2_ := Aside0.mk ((by rw [hg]; exact (below_size zb) : w.heap.size ≤ gb125)); have n3_ := Aside0.mk ((by rw [hg]; exact (below_size zb) : w.heap.size ≤ gb125)); clear HB; have HB := n0_; have BK125 := n1_; have GW125 := n2_; have GE125 := n3_; clear n0_ n1_ n2_ n3_; clear hb hbox hg; have hcz27_0 : w26.cell? ⟨gb125, 0, none⟩ = some (.int .i64 a0_0) := (blk_cell BK125.out 0).trans rfl; have hcz27_1 : w26.cell? ⟨gb125, 1, none⟩ = some (.int .i64 a0_1) := (blk_cell BK125.out 1).trans rfl; have hcz27_2 : w26.cell? ⟨gb125, 2, none⟩ = some (.int .i64 a0_2) := (blk_cell BK125.out 2).trans rfl; have hcz27_3 : w26.cell? ⟨gb125, 3, none⟩ = some (.string a0_3) := (blk_cell BK125.out 3).trans rfl; have hfz27_0 := blk_frozen BK125.out 0; have hfz27_1 := blk_frozen BK125.out 1; have hfz27_2 := blk_frozen BK125.out 2; have hfz27_3 := blk_frozen BK125.out 3) | ((with_reducible refine gate_callee (f := 40) rfl ?_); refine goesL_ (some 29) rfl rfl Try.func40 (by kernel_rfl) rfl #[.int .i64 a0_1] rfl zl ?_; (with_reducible refine (emit_looks.calls a0_1 t128 _ A24.out).mono ?_); rintro e w' ⟨rfl, ⟨nd, rfl⟩⟩; refine ⟨_, rfl, ?_⟩))
       go_ret
       exact ⟨zr, by repeat (first | (with_reducible first | exact HB.out | apply below_alloc | apply pw_below_drewN | apply below_drew1 | refine below_set ?_ GE125.out) | exact HB.out)⟩
      ·rw [if_neg c25] at H
       exact absurd H (by simp)
     ·rw [if_neg c23] at H
      have c23b0 : (a0_0 == 4) = false := beq_eq_false_iff_ne.mpr c23
      have c23b1 : (a0_0 != 4) = true := bne_iff_ne.mpr c23
      by_cases c28 : a0_0 = 5
      ·rw [if_pos c28] at H
       have c28b0 : (a0_0 == 5) = true := beq_iff_eq.mpr c28
       have c28b1 : (a0_0 != 5) = false := bne_eq_false_iff_eq.mpr c28
       clear c28
       by_cases c29 : 0 ≤ a0_1
       ·rw [if_pos c29] at H
        have c29b0 := eq_true c29
        have c29b1 : decide (0 ≤ a0_1) = true := decide_eq_true c29
        clear c29
        by_cases c30 : a0_1 ≤ (wrap64 (a0_1 + 1))
        ·rw [if_pos c30] at H
         have c30b0 := eq_true c30
         have c30b1 : decide (a0_1 ≤ (wrap64 (a0_1 + 1))) = true := decide_eq_true c30
         by_cases c31 : (wrap64 (a0_1 + 1)) ≤ 2
         ·rw [if_pos c31] at H
          have c31b0 := eq_true c31
          have c31b1 : decide ((wrap64 (a0_1 + 1)) ≤ 2) = true := decide_eq_true c31
          by_cases c32 : 7 + ((⟨#[108, 104]⟩ : ByteArray).extract (a0_1 : Int).toNat ((wrap64 (a0_1 + 1)) : Int).toNat).size ≤ 9223372036854775807
          ·rw [if_pos c32] at H
           have c32b0 := eq_true c32
           have c32b1 : decide (7 + ((⟨#[108, 104]⟩ : ByteArray).extract (a0_1 : Int).toNat ((wrap64 (a0_1 + 1)) : Int).toNat).size ≤ 9223372036854775807) = true := decide_eq_true c32
           try have c32b2 : (9223372036854775807 < 7 + ((⟨#[108, 104]⟩ : ByteArray).extract (a0_1 : Int).toNat ((wrap64 (a0_1 + 1)) : Int).toNat).size) = False := eq_false (Nat.not_lt.2 c32)
           obtain rfl := Option.some.inj H
           go_enter Try.func23, Try.ntmps23
           go_wp2_with (first | ((with_reducible refine gate_dst (N := 1) rfl ?_); refine box_event ?hg (N := 1) ?hd (cs := #[.int .i64 a0_0, .int .i64 a0_1, .int .i64 a0_2, .string a0_3]) (t := 31) ?hr ?_; (case hd => rfl); (case hg => rfl); (case hr => first | (go_simp; done) | (go_simp; rfl)); intro gb125 hg w33 hbox hb; have n0_ := Aside0.mk (below_step zb hb); have n1_ := Aside0.mk (hbox); have n2_ := Aside0.mk ((by rw [hg]; exact (below_size zb) : w.heap.size ≤ gb125)); have n3_ := Aside0.mk ((by rw [hg]; exact (below_size zb) : w.heap.size ≤ gb125)); clear HB; have HB := n0_; have BK125 := n1_; have GW125 := n2_; have GE125 := n3_; clear n0_ n1_ n2_ n3_; clear hb hbox hg; have hcz34_0 : w33.cell? ⟨gb125, 0, none⟩ = some (.int .i64 a0_0) := (blk_cell BK125.out 0).trans rfl; have hcz34_1 : w33.cell? ⟨gb125, 1, none⟩ = some (.int .i64 a0_1) := (blk_cell BK125.out 1).trans rfl; have hcz34_2 : w33.cell? ⟨gb125, 2, none⟩ = some (.int .i64 a0_2) := (blk_cell BK125.out 2).trans rfl; have hcz34_3 : w33.cell? ⟨gb125, 3, none⟩ = some (.string a0_3) := (blk_cell BK125.out 3).trans rfl; have hfz34_0 := blk_frozen BK125.out 0; have hfz34_1 := blk_frozen BK125.out 1; have hfz34_2 := blk_frozen BK125.out 2; have hfz34_3 := blk_frozen BK125.out 3))
           go_ret
           exact ⟨zr, by repeat (first | (with_reducible first | exact HB.out | apply below_alloc | apply pw_below_drewN | apply below_drew1 | refine below_set ?_ GE125.out) | exact HB.out)⟩
          ·rw [if_neg c32] at H
           exact absurd H (by simp)
         ·rw [if_neg c31] at H
          exact absurd H (by simp)
        ·rw [if_neg c30] at H
         exact absurd H (by simp)
       ·rw [if_neg c29] at H
        exact absurd H (by simp)
      ·rw [if_neg c28] at H
       have c28b0 : (a0_0 == 5) = false := beq_eq_false_iff_ne.mpr c28
       have c28b1 : (a0_0 != 5) = true := bne_iff_ne.mpr c28
       by_cases c35 : a0_0 = 6
       ·rw [if_pos c35] at H
        have c35b0 : (a0_0 == 6) = true := beq_iff_eq.mpr c35
        have c35b1 : (a0_0 != 6) = false := bne_eq_false_iff_eq.mpr c35
        clear c35
        obtain rfl := Option.some.inj H
        go_enter Try.func23, Try.ntmps23
        go_wp2_with (first | ((with_reducible refine gate_dst (N := 1) rfl ?_); refine box_event ?hg (N := 1) ?hd (cs := #[.int .i64 a0_0, .int .i64 a0_1, .int .i64 a0_2, .string a0_3]) (t := 31) ?hr ?_; (case hd => rfl); (case hg => rfl); (case hr => first | (go_simp; done) | (go_simp; rfl)); intro gb125 hg w36 hbox hb; have n0_ := Aside0.mk (below_step zb hb); have n1_ := Aside0.mk (hbox); have n2_ := Aside0.mk ((by rw [hg]; exact (below_size zb) : w.heap.size ≤ gb125)); have n3_ := Aside0.mk ((by rw [hg]; exact (below_size zb) : w.heap.size ≤ gb125)); clear HB; have HB := n0_; have BK125 := n1_; have GW125 := n2_; have GE125 := n3_; clear n0_ n1_ n2_ n3_; clear hb hbox hg; have hcz37_0 : w36.cell? ⟨gb125, 0, none⟩ = some (.int .i64 a0_0) := (blk_cell BK125.out 0).trans rfl; have hcz37_1 : w36.cell? ⟨gb125, 1, none⟩ = some (.int .i64 a0_1) := (blk_cell BK125.out 1).trans rfl; have hcz37_2 : w36.cell? ⟨gb125, 2, none⟩ = some (.int .i64 a0_2) := (blk_cell BK125.out 2).trans rfl; have hcz37_3 : w36.cell? ⟨gb125, 3, none⟩ = some (.string a0_3) := (blk_cell BK125.out 3).trans rfl; have hfz37_0 := blk_frozen BK125.out 0; have hfz37_1 := blk_frozen BK125.out 1; have hfz37_2 := blk_frozen BK125.out 2; have hfz37_3 := blk_frozen BK125.out 3))
        go_ret
        exact ⟨zr, by repeat (first | (with_reducible first | exact HB.out | apply below_alloc | apply pw_below_drewN | apply below_drew1 | refine below_set ?_ GE125.out) | exact HB.out)⟩
       ·rw [if_neg c35] at H
        have c35b0 : (a0_0 == 6) = false := beq_eq_false_iff_ne.mpr c35
        have c35b1 : (a0_0 != 6) = true := bne_iff_ne.mpr c35
        by_cases c38 : a0_0 = 7
        ·rw [if_pos c38] at H
         have c38b0 : (a0_0 == 7) = true := beq_iff_eq.mpr c38
         have c38b1 : (a0_0 != 7) = false := bne_eq_false_iff_eq.mpr c38
         clear c38
         obtain rfl := Option.some.inj H
         go_enter Try.func23, Try.ntmps23
         go_wp2_with (first | ((with_reducible refine gate_dst (N := 1) rfl ?_); refine box_event ?hg (N := 1) ?hd (cs := #[.int .i64 a0_0, .int .i64 a0_1, .int .i64 a0_2, .string a0_3]) (t := 31) ?hr ?_; (case hd => rfl); (case hg => rfl); (case hr => first | (go_simp; done) | (go_simp; rfl)); intro gb125 hg w39 hbox hb; have n0_ := Aside0.mk (below_step zb hb); have n1_ := Aside0.mk (hbox); have n2_ := Aside0.mk ((by rw [hg]; exact (below_size zb) : w.heap.size ≤ gb125)); have n3_ := Aside0.mk ((by rw [hg]; exact (below_size zb) : w.heap.size ≤ gb125)); clear HB; have HB := n0_; have BK125 := n1_; have GW125 := n2_; have GE125 := n3_; clear n0_ n1_ n2_ n3_; clear hb hbox hg; have hcz40_0 : w39.cell? ⟨gb125, 0, none⟩ = some (.int .i64 a0_0) := (blk_cell BK125.out 0).trans rfl; have hcz40_1 : w39.cell? ⟨gb125, 1, none⟩ = some (.int .i64 a0_1) := (blk_cell BK125.out 1).trans rfl; have hcz40_2 : w39.cell? ⟨gb125, 2, none⟩ = some (.int .i64 a0_2) := (blk_cell BK125.out 2).trans rfl; have hcz40_3 : w39.cell? ⟨gb125, 3, none⟩ = some (.string a0_3) := (blk_cell BK125.out 3).trans rfl; have hfz40_0 := blk_frozen BK125.out 0; have hfz40_1 := blk_frozen BK125.out 1; have hfz40_2 := blk_frozen BK125.out 2; have hfz40_3 := blk_frozen BK125.out 3))
         go_ret
         exact ⟨zr, by repeat (first | (with_reducible first | exact HB.out | apply below_alloc | apply pw_below_drewN | apply below_drew1 | refine below_set ?_ GE125.out) | exact HB.out)⟩
        ·rw [if_neg c38] at H
         have c38b0 : (a0_0 == 7) = false := beq_eq_false_iff_ne.mpr c38
         have c38b1 : (a0_0 != 7) = true := bne_iff_ne.mpr c38
         obtain rfl := Option.some.inj H
         go_enter Try.func23, Try.ntmps23
         go_wp2_with (first | ((with_reducible refine gate_dst (N := 1) rfl ?_); refine box_event ?hg (N := 1) ?hd (cs := #[.int .i64 a0_0, .int .i64 a0_1, .int .i64 a0_2, .string a0_3]) (t := 31) ?hr ?_; (case hd => rfl); (case hg => rfl); (case hr => first | (go_simp; done) | (go_simp; rfl)); intro gb125 hg w41 hbox hb; have n0_ := Aside0.mk (below_step zb hb); have n1_ := Aside0.mk (hbox); have n2_ := Aside0.mk ((by rw [hg]; exact (below_size zb) : w.heap.size ≤ gb125)); have n3_ := Aside0.mk ((by rw [hg]; exact (below_size zb) : w.heap.size ≤ gb125)); clear HB; have HB := n0_; have BK125 := n1_; have GW125 := n2_; have GE125 := n3_; clear n0_ n1_ n2_ n3_; clear hb hbox hg; have hcz42_0 : w41.cell? ⟨gb125, 0, none⟩ = some (.int .i64 a0_0) := (blk_cell BK125.out 0).trans rfl; have hcz42_1 : w41.cell? ⟨gb125, 1, none⟩ = some (.int .i64 a0_1) := (blk_cell BK125.out 1).trans rfl; have hcz42_2 : w41.cell? ⟨gb125, 2, none⟩ = some (.int .i64 a0_2) := (blk_cell BK125.out 2).trans rfl; have hcz42_3 : w41.cell? ⟨gb125, 3, none⟩ = some (.string a0_3) := (blk_cell BK125.out 3).trans rfl; have hfz42_0 := blk_frozen BK125.out 0; have hfz42_1 := blk_frozen BK125.out 1; have hfz42_2 := blk_frozen BK125.out 2; have hfz42_3 := blk_frozen BK125.out 3))
         go_ret
         exact ⟨zr, by repeat (first | (with_reducible first | exact HB.out | apply below_alloc | apply pw_below_drewN | apply below_drew1 | refine below_set ?_ GE125.out) | exact HB.out)⟩

/-! ### emit_Text: function 9 -/
def emit_Text.l0 : Nat → ByteArray → List (S31) → Int → Int → Option (ByteArray × Int)
 | 0, _, _, _, _ => none
 | k + 1, x4, x8, x9, x10 => if x10 < x9 then (if 0 ≤ x10 then (if x10 < (x8.length : Int) then ((emit_Check.f ((rd_T31 x8 x10).f0) ((rd_T31 x8 x10).f1) ((rd_T31 x8 x10).f2) ((rd_T31 x8 x10).f3)).bind fun t131 => (if t131 = 0 then ((emit_bytes.f ((rd_T31 x8 x10).f0) ((rd_T31 x8 x10).f1) ((rd_T31 x8 x10).f2) ((rd_T31 x8 x10).f3)).bind fun t132 => (if x4.size + t132.size ≤ 9223372036854775807 then (emit_Text.l0 k (x4 ++ t132) x8 x9 (wrap64 (x10 + 1))) else (none))) else (some ((⟨#[]⟩ : ByteArray), t131)))) else (none)) else (none)) else (some (x4, 0))
def emit_Text.f (k : Nat) (l0 : List (S31)) : Option (ByteArray × Int) := emit_Text.l0 k (⟨#[]⟩ : ByteArray) l0 (l0.length : Int) 0
theorem emit_Text.mono_l : ∀ k, (∀ y0 y1 y2 y3, LeO (emit_Text.l0 k y0 y1 y2 y3) (emit_Text.l0 (k + 1) y0 y1 y2 y3))
 | 0 => fun _ _ _ _ r h => by simp [emit_Text.l0] at h
 | k + 1 => by
  have ih0 := emit_Text.mono_l k
  ·intro y0 y1 y2 y3
   unfold emit_Text.l0
   repeat' first
   | (with_reducible exact ih0 _ _ _ _)
   | (with_reducible exact LeO.refl _)
   | (with_reducible exact LeO.none _)
   | (with_reducible refine LeO.ite ?_ ?_)
   | (with_reducible refine LeO.bind ?_ (fun _ => ?_))
   | exact ih0 _ _ _ _
   | exact LeO.none _
   | refine LeO.ite ?_ ?_
   | refine LeO.bind ?_ (fun _ => ?_)
theorem emit_Text.mono : ∀ a0 k, LeO (emit_Text.f k a0) (emit_Text.f (k + 1) a0) := by
 intro a0 k
 have ih0 := emit_Text.mono_l k
 unfold emit_Text.f
 repeat' first
   | (with_reducible exact ih0 _ _ _ _)
   | (with_reducible exact LeO.refl _)
   | (with_reducible exact LeO.none _)
   | (with_reducible refine LeO.ite ?_ ?_)
   | (with_reducible refine LeO.bind ?_ (fun _ => ?_))
   | exact ih0 _ _ _ _
   | exact LeO.none _
   | refine LeO.ite ?_ ?_
   | refine LeO.bind ?_ (fun _ => ?_)
set_option maxHeartbeats 8000000 in
set_option maxRecDepth 100000 in
theorem emit_Text.calls (k : Nat) (A0 : Option Addr) (c0 : Nat) (l0 : List (S31)) (r1 : ByteArray) (r2 : Int) (w : World) (hr0 : Kd.C k31 w A0 l0.length l0) (hc0 : l0.length ≤ c0) (h : emit_Text.f k l0 = some (r1, r2)) :
  Calls Try.prog 9 #[.slice A0 l0.length c0] w fun e w' => e = .returned (.tuple #[.string r1, .int .i64 r2]) ∧ Below w.heap.size w w' := by
 have hu31 := Try.underlying31
 have HR0 := Aside0.mk hr0
 have HC0 := Aside0.mk hc0
 clear hr0 hc0
 have HB := Aside0.mk (Below.refl w.heap.size w)
 have H : (emit_Text.l0 k (⟨#[]⟩ : ByteArray) l0 (l0.length : Int) 0) = some (r1, r2) := h
 clear h
 have H' := Aside0.mk H
 clear H
 go_enter Try.func9, Try.ntmps9
 go_wp2
 go_loopg [4, 10] k (fun kq v4 v10 w' => ∃ (x4_1 : ByteArray) (x10_1 : Int), v4 = .string x4_1 ∧ v10 = .int .i64 x10_1 ∧ Aside0 (emit_Text.l0 kq x4_1 l0 (l0.length : Int) x10_1 = some (r1, r2)) ∧ Aside0 (kq ≤ k) ∧ Aside0 (Below w.heap.size w w'))
 case atStart => exact ⟨((⟨#[]⟩ : ByteArray)), (0), (by first | rfl | (simp; done) | (simp [*]; done)), (by first | rfl | (simp; done) | (simp [*]; done)), H', ⟨Nat.le_refl _⟩, ⟨by repeat (first | (with_reducible first | exact HB.out | apply below_alloc | apply pw_below_drewN | apply below_drew1) | exact HB.out)⟩⟩
 case round =>
  clear H'
  obtain ⟨x4_1, x10_1, rfl, rfl, HA, HK1, HB⟩ := hrel
  cases gk with
  | zero => exact absurd HA.out (by simp [emit_Text.l0])
  | succ k1 =>
   have H := HA.out
   clear HA
   simp only [emit_Text.l0] at H
   by_cases c2 : x10_1 < (l0.length : Int)
   ·rw [if_pos c2] at H
    have c2b0 : decide (x10_1 < (l0.length : Int)) = true := decide_eq_true c2
    clear c2
    by_cases c3 : 0 ≤ x10_1
    ·rw [if_pos c3] at H
     have c3b0 : decide (0 ≤ x10_1) = true := decide_eq_true c3
     clear c3
     by_cases c4 : x10_1 < (l0.length : Int)
     ·rw [if_pos c4] at H
      have c4b0 : decide (x10_1 < (l0.length : Int)) = true := decide_eq_true c4
      clear c4
      replace H := Option.bind_eq_some_iff.mp H
      obtain ⟨t131, A50, H⟩ := H
      replace H : (if t131 = 0 then ((emit_bytes.f ((rd_T31 l0 x10_1).f0) ((rd_T31 l0 x10_1).f1) ((rd_T31 l0 x10_1).f2) ((rd_T31 l0 x10_1).f3)).bind fun t132 => (if x4_1.size + t132.size ≤ 9223372036854775807 then (emit_Text.l0 k1 (x4_1 ++ t132) l0 (l0.length : Int) (wrap64 (x10_1 + 1))) else (none))) else (some ((⟨#[]⟩ : ByteArray), t131))) = some (r1, r2) := H
      have A5 := Aside0.mk A50
      clear A50
      by_cases c6 : t131 = 0
      ·rw [if_pos c6] at H
       have c6b0 : (t131 == 0) = true := beq_iff_eq.mpr c6
       have c6b1 : (t131 != 0) = false := bne_eq_false_iff_eq.mpr c6
       clear c6
       replace H := Option.bind_eq_some_iff.mp H
       obtain ⟨t132, A70, H⟩ := H
       replace H : (if x4_1.size + t132.size ≤ 9223372036854775807 then (emit_Text.l0 k1 (x4_1 ++ t132) l0 (l0.length : Int) (wrap64 (x10_1 + 1))) else (none)) = some (r1, r2) := H
       have A7 := Aside0.mk A70
       clear A70
       by_cases c8 : x4_1.size + t132.size ≤ 9223372036854775807
       ·rw [if_pos c8] at H
        have c8b0 := eq_true c8
        have c8b1 : decide (x4_1.size + t132.size ≤ 9223372036854775807) = true := decide_eq_true c8
        try have c8b2 : (9223372036854775807 < x4_1.size + t132.size) = False := eq_false (Nat.not_lt.2 c8)
        have H' := Aside0.mk H
        clear H
        have p129 : 0 ≤ (x10_1 : Int) := of_decide_eq_true za
        have q129 : x10_1 < (l0.length : Int) := of_decide_eq_true za
        obtain ⟨ad129, e129, hx129_0, hx129_1, hx129_2, hx129_3⟩ := at_T31 HR0.out x10_1 p129 q129
        cases e129
        replace hx129_0 := (HB.out.cell (World.block_lt_of_cell? w _ hx129_0)).trans hx129_0
        replace hx129_1 := (HB.out.cell (World.block_lt_of_cell? w _ hx129_1)).trans hx129_1
        replace hx129_2 := (HB.out.cell (World.block_lt_of_cell? w _ hx129_2)).trans hx129_2
        replace hx129_3 := (HB.out.cell (World.block_lt_of_cell? w _ hx129_3)).trans hx129_3
        replace p129 := eq_true p129
        replace q129 := eq_true q129
        go_wp2_with (first | ((with_reducible refine gate_dst (N := 6) rfl ?_); refine box_event ?hg (N := 6) ?hd (cs := #[.int .i64 0, .int .i64 0, .int .i64 0, .string (⟨#[]⟩ : ByteArray)]) (t := 31) ?hr ?_; (case hd => rfl); (case hg => rfl); (case hr => first | (go_simp; done) | (go_simp; rfl)); intro gb130 hg w9 hbox hb; have n0_ := Aside0.mk (below_step zb hb); have n1_ := Aside0.mk (hbox); have n2_ := Aside0.mk ((by rw [hg]; exact (below_size zb) : w.heap.size ≤ gb130)); have n3_ := Aside0.mk ((by rw [hg]; exact (below_size zb) : w.heap.size ≤ gb130)); clear HB; have HB := n0_; have BK130 := n1_; have GW130 := n2_; have GE130 := n3_; clear n0_ n1_ n2_ n3_; clear hb hbox hg; have hcz10_0 : w9.cell? ⟨gb130, 0, none⟩ = some (.int .i64 0) := (blk_cell BK130.out 0).trans rfl; have hcz10_1 : w9.cell? ⟨gb130, 1, none⟩ = some (.int .i64 0) := (blk_cell BK130.out 1).trans rfl; have hcz10_2 : w9.cell? ⟨gb130, 2, none⟩ = some (.int .i64 0) := (blk_cell BK130.out 2).trans rfl; have hcz10_3 : w9.cell? ⟨gb130, 3, none⟩ = some (.string (⟨#[]⟩ : ByteArray)) := (blk_cell BK130.out 3).trans rfl; have hfz10_0 := blk_frozen BK130.out 0; have hfz10_1 := blk_frozen BK130.out 1; have hfz10_2 := blk_frozen BK130.out 2; have hfz10_3 := blk_frozen BK130.out 3) | ((with_reducible refine gate_callee (f := 12) rfl ?_); refine goesL_ (some 15) rfl rfl Try.func12 (by kernel_rfl) rfl #[.agg #[.int .i64 ((rd_T31 l0 x10_1).f0), .int .i64 ((rd_T31 l0 x10_1).f1), .int .i64 ((rd_T31 l0 x10_1).f2), .string ((rd_T31 l0 x10_1).f3)]] rfl zl ?_; (with_reducible refine (emit_Check.calls ((rd_T31 l0 x10_1).f0) ((rd_T31 l0 x10_1).f1) ((rd_T31 l0 x10_1).f2) ((rd_T31 l0 x10_1).f3) t131 _ A5.out).mono ?_); rintro e w11 ⟨rfl, hb⟩; refine ⟨_, rfl, ?_⟩; have n0_ := Aside0.mk (blk_below (g := gb130) (o := .cells #[.int .i64 ((rd_T31 l0 x10_1).f0), .int .i64 ((rd_T31 l0 x10_1).f1), .int .i64 ((rd_T31 l0 x10_1).f2), .string ((rd_T31 l0 x10_1).f3)] 31 (0, 0)) (by (with_reducible repeat (first | refine blk_drewN ?_ _ | refine blk_drew ?_ | refine blk_alloc ?_ _)); refine blk_put (cs := #[.int .i64 ((rd_T31 l0 x10_1).f0), .int .i64 ((rd_T31 l0 x10_1).f1), .int .i64 ((rd_T31 l0 x10_1).f2), .string (⟨#[]⟩ : ByteArray)]) ?_ 3 _ rfl; (with_reducible repeat (first | refine blk_drewN ?_ _ | refine blk_drew ?_ | refine blk_alloc ?_ _)); refine blk_put (cs := #[.int .i64 ((rd_T31 l0 x10_1).f0), .int .i64 ((rd_T31 l0 x10_1).f1), .int .i64 0, .string (⟨#[]⟩ : ByteArray)]) ?_ 2 _ rfl; (with_reducible repeat (first | refine blk_drewN ?_ _ | refine blk_drew ?_ | refine blk_alloc ?_ _)); refine blk_put (cs := #[.int .i64 ((rd_T31 l0 x10_1).f0), .int .i64 0, .int .i64 0, .string (⟨#[]⟩ : ByteArray)]) ?_ 1 _ rfl; (with_reducible repeat (first | refine blk_drewN ?_ _ | refine blk_drew ?_ | refine blk_alloc ?_ _)); refine blk_put (cs := #[.int .i64 0, .int .i64 0, .int .i64 0, .string (⟨#[]⟩ : ByteArray)]) ?_ 0 _ rfl; (with_reducible repeat (first | refine blk_drewN ?_ _ | refine blk_drew ?_ | refine blk_alloc ?_ _)); exact BK130.out) hb); have n1_ := Aside0.mk (below_step (by repeat (first | (with_reducible first | exact HB.out | apply below_alloc | apply pw_below_drewN | apply below_drew1 | refine below_set ?_ GE130.out) | exact HB.out)) hb); clear BK130; clear HB; have BK130 := n0_; have HB := n1_; clear n0_ n1_; (try clear hb); (try clear hb2); (try clear hk); (try clear hi); have hcz12_0 : w11.cell? ⟨gb130, 0, none⟩ = some (.int .i64 ((rd_T31 l0 x10_1).f0)) := (blk_cell BK130.out 0).trans rfl; have hcz12_1 : w11.cell? ⟨gb130, 1, none⟩ = some (.int .i64 ((rd_T31 l0 x10_1).f1)) := (blk_cell BK130.out 1).trans rfl; have hcz12_2 : w11.cell? ⟨gb130, 2, none⟩ = some (.int .i64 ((rd_T31 l0 x10_1).f2)) := (blk_cell BK130.out 2).trans rfl; have hcz12_3 : w11.cell? ⟨gb130, 3, none⟩ = some (.string ((rd_T31 l0 x10_1).f3)) := (blk_cell BK130.out 3).trans rfl; have hfz12_0 := blk_frozen BK130.out 0; have hfz12_1 := blk_frozen BK130.out 1; have hfz12_2 := blk_frozen BK130.out 2; have hfz12_3 := blk_frozen BK130.out 3) | ((with_reducible refine gate_callee (f := 23) rfl ?_); refine goesL_ (some 21) rfl rfl Try.func23 (by kernel_rfl) rfl #[.agg #[.int .i64 ((rd_T31 l0 x10_1).f0), .int .i64 ((rd_T31 l0 x10_1).f1), .int .i64 ((rd_T31 l0 x10_1).f2), .string ((rd_T31 l0 x10_1).f3)]] rfl zl ?_; (with_reducible refine (emit_bytes.calls ((rd_T31 l0 x10_1).f0) ((rd_T31 l0 x10_1).f1) ((rd_T31 l0 x10_1).f2) ((rd_T31 l0 x10_1).f3) t132 _ A7.out).mono ?_); rintro e w13 ⟨rfl, hb⟩; refine ⟨_, rfl, ?_⟩; have n0_ := Aside0.mk (blk_below (g := gb130) (o := .cells #[.int .i64 ((rd_T31 l0 x10_1).f0), .int .i64 ((rd_T31 l0 x10_1).f1), .int .i64 ((rd_T31 l0 x10_1).f2), .string ((rd_T31 l0 x10_1).f3)] 31 (0, 0)) (zj BK130.out) hb); have n1_ := Aside0.mk (below_step (by repeat (first | (with_reducible first | exact HB.out | apply below_alloc | apply pw_below_drewN | apply below_drew1 | refine below_set ?_ GE130.out) | exact HB.out)) hb); clear BK130; clear HB; have BK130 := n0_; have HB := n1_; clear n0_ n1_; (try clear hb); (try clear hb2); (try clear hk); (try clear hi)))
        go_roundg k1
        case measure => have := HK1.out; omega
        case rel => exact ⟨(x4_1 ++ t132), (wrap64 (x10_1 + 1)), (by first | rfl | (simp; done) | (simp [*]; done)), (by first | rfl | (simp; done) | (simp [*]; done)), H', ⟨by have := HK1.out; omega⟩, ⟨by repeat (first | (with_reducible first | exact HB.out | apply below_alloc | apply pw_below_drewN | apply below_drew1 | refine below_set ?_ GE130.out) | exact HB.out)⟩⟩
       ·rw [if_neg c8] at H
        exact absurd H (by simp)
      ·rw [if_neg c6] at H
       have c6b0 : (t131 == 0) = false := beq_eq_false_iff_ne.mpr c6
       have c6b1 : (t131 != 0) = true := bne_iff_ne.mpr c6
       simp only [Option.some.injEq, Prod.mk.injEq] at H
       obtain ⟨rfl, rfl⟩ := H
       have p129 : 0 ≤ (x10_1 : Int) := of_decide_eq_true za
       have q129 : x10_1 < (l0.length : Int) := of_decide_eq_true za
       obtain ⟨ad129, e129, hx129_0, hx129_1, hx129_2, hx129_3⟩ := at_T31 HR0.out x10_1 p129 q129
       cases e129
       replace hx129_0 := (HB.out.cell (World.block_lt_of_cell? w _ hx129_0)).trans hx129_0
       replace hx129_1 := (HB.out.cell (World.block_lt_of_cell? w _ hx129_1)).trans hx129_1
       replace hx129_2 := (HB.out.cell (World.block_lt_of_cell? w _ hx129_2)).trans hx129_2
       replace hx129_3 := (HB.out.cell (World.block_lt_of_cell? w _ hx129_3)).trans hx129_3
       replace p129 := eq_true p129
       replace q129 := eq_true q129
       go_wp2_with (first | ((with_reducible refine gate_dst (N := 6) rfl ?_); refine box_event ?hg (N := 6) ?hd (cs := #[.int .i64 0, .int .i64 0, .int .i64 0, .string (⟨#[]⟩ : ByteArray)]) (t := 31) ?hr ?_; (case hd => rfl); (case hg => rfl); (case hr => first | (go_simp; done) | (go_simp; rfl)); intro gb130 hg w14 hbox hb; have n0_ := Aside0.mk (below_step zb hb); have n1_ := Aside0.mk (hbox); have n2_ := Aside0.mk ((by rw [hg]; exact (below_size zb) : w.heap.size ≤ gb130)); have n3_ := Aside0.mk ((by rw [hg]; exact (below_size zb) : w.heap.size ≤ gb130)); clear HB; have HB := n0_; have BK130 := n1_; have GW130 := n2_; have GE130 := n3_; clear n0_ n1_ n2_ n3_; clear hb hbox hg; have hcz15_0 : w14.cell? ⟨gb130, 0, none⟩ = some (.int .i64 0) := (blk_cell BK130.out 0).trans rfl; have hcz15_1 : w14.cell? ⟨gb130, 1, none⟩ = some (.int .i64 0) := (blk_cell BK130.out 1).trans rfl; have hcz15_2 : w14.cell? ⟨gb130, 2, none⟩ = some (.int .i64 0) := (blk_cell BK130.out 2).trans rfl; have hcz15_3 : w14.cell? ⟨gb130, 3, none⟩ = some (.string (⟨#[]⟩ : ByteArray)) := (blk_cell BK130.out 3).trans rfl; have hfz15_0 := blk_frozen BK130.out 0; have hfz15_1 := blk_frozen BK130.out 1; have hfz15_2 := blk_frozen BK130.out 2; have hfz15_3 := blk_frozen BK130.out 3) | ((with_reducible refine gate_callee (f := 12) rfl ?_); refine goesL_ (some 15) rfl rfl Try.func12 (by kernel_rfl) rfl #[.agg #[.int .i64 ((rd_T31 l0 x10_1).f0), .int .i64 ((rd_T31 l0 x10_1).f1), .int .i64 ((rd_T31 l0 x10_1).f2), .string ((rd_T31 l0 x10_1).f3)]] rfl zl ?_; (with_reducible refine (emit_Check.calls ((rd_T31 l0 x10_1).f0) ((rd_T31 l0 x10_1).f1) ((rd_T31 l0 x10_1).f2) ((rd_T31 l0 x10_1).f3) t131 _ A5.out).mono ?_); rintro e w16 ⟨rfl, hb⟩; refine ⟨_, rfl, ?_⟩; have n0_ := Aside0.mk (blk_below (g := gb130) (o := .cells #[.int .i64 ((rd_T31 l0 x10_1).f0), .int .i64 ((rd_T31 l0 x10_1).f1), .int .i64 ((rd_T31 l0 x10_1).f2), .string ((rd_T31 l0 x10_1).f3)] 31 (0, 0)) (by (with_reducible repeat (first | refine blk_drewN ?_ _ | refine blk_drew ?_ | refine blk_alloc ?_ _)); refine blk_put (cs := #[.int .i64 ((rd_T31 l0 x10_1).f0), .int .i64 ((rd_T31 l0 x10_1).f1), .int .i64 ((rd_T31 l0 x10_1).f2), .string (⟨#[]⟩ : ByteArray)]) ?_ 3 _ rfl; (with_reducible repeat (first | refine blk_drewN ?_ _ | refine blk_drew ?_ | refine blk_alloc ?_ _)); refine blk_put (cs := #[.int .i64 ((rd_T31 l0 x10_1).f0), .int .i64 ((rd_T31 l0 x10_1).f1), .int .i64 0, .string (⟨#[]⟩ : ByteArray)]) ?_ 2 _ rfl; (with_reducible repeat (first | refine blk_drewN ?_ _ | refine blk_drew ?_ | refine blk_alloc ?_ _)); refine blk_put (cs := #[.int .i64 ((rd_T31 l0 x10_1).f0), .int .i64 0, .int .i64 0, .string (⟨#[]⟩ : ByteArray)]) ?_ 1 _ rfl; (with_reducible repeat (first | refine blk_drewN ?_ _ | refine blk_drew ?_ | refine blk_alloc ?_ _)); refine blk_put (cs := #[.int .i64 0, .int .i64 0, .int .i64 0, .string (⟨#[]⟩ : ByteArray)]) ?_ 0 _ rfl; (with_reducible repeat (first | refine blk_drewN ?_ _ | refine blk_drew ?_ | refine blk_alloc ?_ _)); exact BK130.out) hb); have n1_ := Aside0.mk (below_step (by repeat (first | (with_reducible first | exact HB.out | apply below_alloc | apply pw_below_drewN | apply below_drew1 | refine below_set ?_ GE130.out) | exact HB.out)) hb); clear BK130; clear HB; have BK130 := n0_; have HB := n1_; clear n0_ n1_; (try clear hb); (try clear hb2); (try clear hk); (try clear hi)))
       go_ret2
       exact ⟨zr, by repeat (first | (with_reducible first | exact HB.out | apply below_alloc | apply pw_below_drewN | apply below_drew1 | refine below_set ?_ GE130.out) | exact HB.out)⟩
     ·rw [if_neg c4] at H
      exact absurd H (by simp)
    ·rw [if_neg c3] at H
     exact absurd H (by simp)
   ·rw [if_neg c2] at H
    have c2b0 : decide (x10_1 < (l0.length : Int)) = false := decide_eq_false c2
    clear c2
    simp only [Option.some.injEq, Prod.mk.injEq] at H
    obtain ⟨rfl, rfl⟩ := H
    go_wp2
    go_ret2
    exact ⟨zr, zb⟩

end Go.Proofs.Ytddkmhkglmcihaa.PAll
