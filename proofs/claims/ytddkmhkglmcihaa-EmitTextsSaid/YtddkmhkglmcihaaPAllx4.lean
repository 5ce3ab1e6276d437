-- Printed for this claim by the session's own program (wip/tool/hprint.py) over the kit's print; some functions' texts are the session's own.
import Derived.Test.YtddkmhkglmcihaaPAllx0
import Derived.Test.YtddkmhkglmcihaaPAllx1
import Derived.Test.YtddkmhkglmcihaaPAllx3
namespace Go.Proofs.Ytddkmhkglmcihaa.PAll
open Go.RowKit Go.Proofs.YtddkmhkglmcihaaW.PrintWords Go.Proofs.YtddkmhkglmcihaaW.PrintLast Go.Proofs.YtddkmhkglmcihaaW.PrintMore
attribute [local go_sem] max2_int min2_int max_two min_two max_three min_three max_four min_four   -- for this text's walks alone
set_option linter.unusedVariables false
set_option linter.unusedSimpArgs false

/-! ### emit_Check: function 12 -/
def emit_Check.none_ (n m : Int) (t : ByteArray) : Int := if n = 0 then (if m = 0 then (if t.toList = [] then 0 else 2) else 2) else 2
def emit_Check.f (a0_0 : Int) (a0_1 : Int) (a0_2 : Int) (a0_3 : ByteArray) : Option Int :=
 if a0_0 = 0 then (emit_plain.f a0_3).bind fun b => (if b = true then (if a0_1 = 0 then (if a0_2 = 0 then some 0 else some 2) else some 2) else some 2)
 else if a0_0 = 1 then (if 1 ≤ a0_2 then (if a0_2 ≤ 1000 then (if 1 ≤ a0_1 then (if a0_1 ≤ 1000 then (if a0_3.toList = [] then some 0 else some 2) else some 2) else some 2) else some 2) else some 2)
 else if a0_0 = 4 then (if 0 ≤ a0_1 then (if a0_1 ≤ 7 then (if a0_2 = 0 then (if a0_3.toList = [] then some 0 else some 2) else some 2) else some 2) else some 2)
 else if a0_0 = 5 then (if 0 ≤ a0_1 then (if a0_1 ≤ 1 then (if a0_2 = 0 then (if a0_3.toList = [] then some 0 else some 2) else some 2) else some 2) else some 2)
 else if a0_0 = 2 ∨ a0_0 = 3 ∨ a0_0 = 6 ∨ a0_0 = 7 ∨ a0_0 = 8 then some (emit_Check.none_ a0_1 a0_2 a0_3)
 else some 2
attribute [local go_sem high] eqA31
theorem emit_Check.bel (w : World) (a b : Obj) : Below w.heap.size w ((w.alloc a).alloc b) := ((Below.refl _ _).alloc (Nat.le_refl _) _).alloc (by simp) _
set_option maxHeartbeats 8000000 in
set_option maxRecDepth 100000 in
theorem emit_Check.k2_a (n m : Int) (t : ByteArray) (w : World) (hn : (n == 0) = false) :
  Calls Try.prog 12 #[.agg #[.int .i64 2, .int .i64 n, .int .i64 m, .string t]] w fun e w' => e = .returned (.int .i64 2) ∧ Below w.heap.size w w' := by
 go_enter Try.func12, Try.ntmps12
 go_wp2
 go_ret
 exact ⟨rfl, emit_Check.bel _ _ _⟩
set_option maxHeartbeats 8000000 in
set_option maxRecDepth 100000 in
theorem emit_Check.k2_b (m : Int) (t : ByteArray) (w : World) (hm : (m == 0) = false) :
  Calls Try.prog 12 #[.agg #[.int .i64 2, .int .i64 0, .int .i64 m, .string t]] w fun e w' => e = .returned (.int .i64 2) ∧ Below w.heap.size w w' := by
 go_enter Try.func12, Try.ntmps12
 go_wp2
 go_ret
 exact ⟨rfl, emit_Check.bel _ _ _⟩
set_option maxHeartbeats 8000000 in
set_option maxRecDepth 100000 in
theorem emit_Check.k2_c (t : ByteArray) (w : World) (ht : ¬ t.toList = []) (ht2 : t.toList.isEmpty = false) :
  Calls Try.prog 12 #[.agg #[.int .i64 2, .int .i64 0, .int .i64 0, .string t]] w fun e w' => e = .returned (.int .i64 2) ∧ Below w.heap.size w w' := by
 go_enter Try.func12, Try.ntmps12
 go_wp2
 go_ret
 exact ⟨rfl, emit_Check.bel _ _ _⟩
set_option maxHeartbeats 8000000 in
set_option maxRecDepth 100000 in
theorem emit_Check.k2_d (t : ByteArray) (w : World) (ht : t.toList = []) :
  Calls Try.prog 12 #[.agg #[.int .i64 2, .int .i64 0, .int .i64 0, .string t]] w fun e w' => e = .returned (.int .i64 0) ∧ Below w.heap.size w w' := by
 go_enter Try.func12, Try.ntmps12
 go_wp2
 go_ret
 exact ⟨rfl, emit_Check.bel _ _ _⟩
set_option maxHeartbeats 8000000 in
set_option maxRecDepth 100000 in
theorem emit_Check.k3_a (n m : Int) (t : ByteArray) (w : World) (hn : (n == 0) = false) :
  Calls Try.prog 12 #[.agg #[.int .i64 3, .int .i64 n, .int .i64 m, .string t]] w fun e w' => e = .returned (.int .i64 2) ∧ Below w.heap.size w w' := by
 go_enter Try.func12, Try.ntmps12
 go_wp2
 go_ret
 exact ⟨rfl, emit_Check.bel _ _ _⟩
set_option maxHeartbeats 8000000 in
set_option maxRecDepth 100000 in
theorem emit_Check.k3_b (m : Int) (t : ByteArray) (w : World) (hm : (m == 0) = false) :
  Calls Try.prog 12 #[.agg #[.int .i64 3, .int .i64 0, .int .i64 m, .string t]] w fun e w' => e = .returned (.int .i64 2) ∧ Below w.heap.size w w' := by
 go_enter Try.func12, Try.ntmps12
 go_wp2
 go_ret
 exact ⟨rfl, emit_Check.bel _ _ _⟩
set_option maxHeartbeats 8000000 in
set_option maxRecDepth 100000 in
theorem emit_Check.k3_c (t : ByteArray) (w : World) (ht : ¬ t.toList = []) (ht2 : t.toList.isEmpty = false) :
  Calls Try.prog 12 #[.agg #[.int .i64 3, .int .i64 0, .int .i64 0, .string t]] w fun e w' => e = .returned (.int .i64 2) ∧ Below w.heap.size w w' := by
 go_enter Try.func12, Try.ntmps12
 go_wp2
 go_ret
 exact ⟨rfl, emit_Check.bel _ _ _⟩
set_option maxHeartbeats 8000000 in
set_option maxRecDepth 100000 in
theorem emit_Check.k3_d (t : ByteArray) (w : World) (ht : t.toList = []) :
  Calls Try.prog 12 #[.agg #[.int .i64 3, .int .i64 0, .int .i64 0, .string t]] w fun e w' => e = .returned (.int .i64 0) ∧ Below w.heap.size w w' := by
 go_enter Try.func12, Try.ntmps12
 go_wp2
 go_ret
 exact ⟨rfl, emit_Check.bel _ _ _⟩
set_option maxHeartbeats 8000000 in
set_option maxRecDepth 100000 in
theorem emit_Check.k6_a (n m : Int) (t : ByteArray) (w : World) (hn : (n == 0) = false) :
  Calls Try.prog 12 #[.agg #[.int .i64 6, .int .i64 n, .int .i64 m, .string t]] w fun e w' => e = .returned (.int .i64 2) ∧ Below w.heap.size w w' := by
 go_enter Try.func12, Try.ntmps12
 go_wp2
 go_ret
 exact ⟨rfl, emit_Check.bel _ _ _⟩
set_option maxHeartbeats 8000000 in
set_option maxRecDepth 100000 in
theorem emit_Check.k6_b (m : Int) (t : ByteArray) (w : World) (hm : (m == 0) = false) :
  Calls Try.prog 12 #[.agg #[.int .i64 6, .int .i64 0, .int .i64 m, .string t]] w fun e w' => e = .returned (.int .i64 2) ∧ Below w.heap.size w w' := by
 go_enter Try.func12, Try.ntmps12
 go_wp2
 go_ret
 exact ⟨rfl, emit_Check.bel _ _ _⟩
set_option maxHeartbeats 8000000 in
set_option maxRecDepth 100000 in
theorem emit_Check.k6_c (t : ByteArray) (w : World) (ht : ¬ t.toList = []) (ht2 : t.toList.isEmpty = false) :
  Calls Try.prog 12 #[.agg #[.int .i64 6, .int .i64 0, .int .i64 0, .string t]] w fun e w' => e = .returned (.int .i64 2) ∧ Below w.heap.size w w' := by
 go_enter Try.func12, Try.ntmps12
 go_wp2
 go_ret
 exact ⟨rfl, emit_Check.bel _ _ _⟩
set_option maxHeartbeats 8000000 in
set_option maxRecDepth 100000 in
theorem emit_Check.k6_d (t : ByteArray) (w : World) (ht : t.toList = []) :
  Calls Try.prog 12 #[.agg #[.int .i64 6, .int .i64 0, .int .i64 0, .string t]] w fun e w' => e = .returned (.int .i64 0) ∧ Below w.heap.size w w' := by
 go_enter Try.func12, Try.ntmps12
 go_wp2
 go_ret
 exact ⟨rfl, emit_Check.bel _ _ _⟩
set_option maxHeartbeats 8000000 in
set_option maxRecDepth 100000 in
theorem emit_Check.k7_a (n m : Int) (t : ByteArray) (w : World) (hn : (n == 0) = false) :
  Calls Try.prog 12 #[.agg #[.int .i64 7, .int .i64 n, .int .i64 m, .string t]] w fun e w' => e = .returned (.int .i64 2) ∧ Below w.heap.size w w' := by
 go_enter Try.func12, Try.ntmps12
 go_wp2
 go_ret
 exact ⟨rfl, emit_Check.bel _ _ _⟩
set_option maxHeartbeats 8000000 in
set_option maxRecDepth 100000 in
theorem emit_Check.k7_b (m : Int) (t : ByteArray) (w : World) (hm : (m == 0) = false) :
  Calls Try.prog 12 #[.agg #[.int .i64 7, .int .i64 0, .int .i64 m, .string t]] w fun e w' => e = .returned (.int .i64 2) ∧ Below w.heap.size w w' := by
 go_enter Try.func12, Try.ntmps12
 go_wp2
 go_ret
 exact ⟨rfl, emit_Check.bel _ _ _⟩
set_option maxHeartbeats 8000000 in
set_option maxRecDepth 100000 in
theorem emit_Check.k7_c (t : ByteArray) (w : World) (ht : ¬ t.toList = []) (ht2 : t.toList.isEmpty = false) :
  Calls Try.prog 12 #[.agg #[.int .i64 7, .int .i64 0, .int .i64 0, .string t]] w fun e w' => e = .returned (.int .i64 2) ∧ Below w.heap.size w w' := by
 go_enter Try.func12, Try.ntmps12
 go_wp2
 go_ret
 exact ⟨rfl, emit_Check.bel _ _ _⟩
set_option maxHeartbeats 8000000 in
set_option maxRecDepth 100000 in
theorem emit_Check.k7_d (t : ByteArray) (w : World) (ht : t.toList = []) :
  Calls Try.prog 12 #[.agg #[.int .i64 7, .int .i64 0, .int .i64 0, .string t]] w fun e w' => e = .returned (.int .i64 0) ∧ Below w.heap.size w w' := by
 go_enter Try.func12, Try.ntmps12
 go_wp2
 go_ret
 exact ⟨rfl, emit_Check.bel _ _ _⟩
set_option maxHeartbeats 8000000 in
set_option maxRecDepth 100000 in
theorem emit_Check.k8_a (n m : Int) (t : ByteArray) (w : World) (hn : (n == 0) = false) :
  Calls Try.prog 12 #[.agg #[.int .i64 8, .int .i64 n, .int .i64 m, .string t]] w fun e w' => e = .returned (.int .i64 2) ∧ Below w.heap.size w w' := by
 go_enter Try.func12, Try.ntmps12
 go_wp2
 go_ret
 exact ⟨rfl, emit_Check.bel _ _ _⟩
set_option maxHeartbeats 8000000 in
set_option maxRecDepth 100000 in
theorem emit_Check.k8_b (m : Int) (t : ByteArray) (w : World) (hm : (m == 0) = false) :
  Calls Try.prog 12 #[.agg #[.int .i64 8, .int .i64 0, .int .i64 m, .string t]] w fun e w' => e = .returned (.int .i64 2) ∧ Below w.heap.size w w' := by
 go_enter Try.func12, Try.ntmps12
 go_wp2
 go_ret
 exact ⟨rfl, emit_Check.bel _ _ _⟩
set_option maxHeartbeats 8000000 in
set_option maxRecDepth 100000 in
theorem emit_Check.k8_c (t : ByteArray) (w : World) (ht : ¬ t.toList = []) (ht2 : t.toList.isEmpty = false) :
  Calls Try.prog 12 #[.agg #[.int .i64 8, .int .i64 0, .int .i64 0, .string t]] w fun e w' => e = .returned (.int .i64 2) ∧ Below w.heap.size w w' := by
 go_enter Try.func12, Try.ntmps12
 go_wp2
 go_ret
 exact ⟨rfl, emit_Check.bel _ _ _⟩
set_option maxHeartbeats 8000000 in
set_option maxRecDepth 100000 in
theorem emit_Check.k8_d (t : ByteArray) (w : World) (ht : t.toList = []) :
  Calls Try.prog 12 #[.agg #[.int .i64 8, .int .i64 0, .int .i64 0, .string t]] w fun e w' => e = .returned (.int .i64 0) ∧ Below w.heap.size w w' := by
 go_enter Try.func12, Try.ntmps12
 go_wp2
 go_ret
 exact ⟨rfl, emit_Check.bel _ _ _⟩
set_option maxHeartbeats 8000000 in
set_option maxRecDepth 100000 in
theorem emit_Check.k1_a (n m : Int) (t : ByteArray) (w : World) (h1 : decide (1 ≤ m) = false) :
  Calls Try.prog 12 #[.agg #[.int .i64 1, .int .i64 n, .int .i64 m, .string t]] w fun e w' => e = .returned (.int .i64 2) ∧ Below w.heap.size w w' := by
 go_enter Try.func12, Try.ntmps12
 go_wp2
 go_ret
 exact ⟨rfl, emit_Check.bel _ _ _⟩
set_option maxHeartbeats 8000000 in
set_option maxRecDepth 100000 in
theorem emit_Check.k1_b (n m : Int) (t : ByteArray) (w : World) (h1 : decide (1 ≤ m) = true) (h2 : decide (m ≤ 1000) = false) :
  Calls Try.prog 12 #[.agg #[.int .i64 1, .int .i64 n, .int .i64 m, .string t]] w fun e w' => e = .returned (.int .i64 2) ∧ Below w.heap.size w w' := by
 go_enter Try.func12, Try.ntmps12
 go_wp2
 go_ret
 exact ⟨rfl, emit_Check.bel _ _ _⟩
set_option maxHeartbeats 8000000 in
set_option maxRecDepth 100000 in
theorem emit_Check.k1_c (n m : Int) (t : ByteArray) (w : World) (h1 : decide (1 ≤ m) = true) (h2 : decide (m ≤ 1000) = true) (h3 : decide (1 ≤ n) = false) :
  Calls Try.prog 12 #[.agg #[.int .i64 1, .int .i64 n, .int .i64 m, .string t]] w fun e w' => e = .returned (.int .i64 2) ∧ Below w.heap.size w w' := by
 go_enter Try.func12, Try.ntmps12
 go_wp2
 go_ret
 exact ⟨rfl, emit_Check.bel _ _ _⟩
set_option maxHeartbeats 8000000 in
set_option maxRecDepth 100000 in
theorem emit_Check.k1_d (n m : Int) (t : ByteArray) (w : World) (h1 : decide (1 ≤ m) = true) (h2 : decide (m ≤ 1000) = true) (h3 : decide (1 ≤ n) = true) (h4 : decide (n ≤ 1000) = false) :
  Calls Try.prog 12 #[.agg #[.int .i64 1, .int .i64 n, .int .i64 m, .string t]] w fun e w' => e = .returned (.int .i64 2) ∧ Below w.heap.size w w' := by
 go_enter Try.func12, Try.ntmps12
 go_wp2
 go_ret
 exact ⟨rfl, emit_Check.bel _ _ _⟩
set_option maxHeartbeats 8000000 in
set_option maxRecDepth 100000 in
theorem emit_Check.k1_e (n m : Int) (t : ByteArray) (w : World) (h1 : decide (1 ≤ m) = true) (h2 : decide (m ≤ 1000) = true) (h3 : decide (1 ≤ n) = true) (h4 : decide (n ≤ 1000) = true) (ht : ¬ t.toList = []) (ht2 : t.toList.isEmpty = false) :
  Calls Try.prog 12 #[.agg #[.int .i64 1, .int .i64 n, .int .i64 m, .string t]] w fun e w' => e = .returned (.int .i64 2) ∧ Below w.heap.size w w' := by
 go_enter Try.func12, Try.ntmps12
 go_wp2
 go_ret
 exact ⟨rfl, emit_Check.bel _ _ _⟩
set_option maxHeartbeats 8000000 in
set_option maxRecDepth 100000 in
theorem emit_Check.k1_f (n m : Int) (t : ByteArray) (w : World) (h1 : decide (1 ≤ m) = true) (h2 : decide (m ≤ 1000) = true) (h3 : decide (1 ≤ n) = true) (h4 : decide (n ≤ 1000) = true) (ht : t.toList = []) :
  Calls Try.prog 12 #[.agg #[.int .i64 1, .int .i64 n, .int .i64 m, .string t]] w fun e w' => e = .returned (.int .i64 0) ∧ Below w.heap.size w w' := by
 go_enter Try.func12, Try.ntmps12
 go_wp2
 go_ret
 exact ⟨rfl, emit_Check.bel _ _ _⟩
set_option maxHeartbeats 8000000 in
set_option maxRecDepth 100000 in
theorem emit_Check.k4_a (n m : Int) (t : ByteArray) (w : World) (h1 : decide (0 ≤ n) = false) :
  Calls Try.prog 12 #[.agg #[.int .i64 4, .int .i64 n, .int .i64 m, .string t]] w fun e w' => e = .returned (.int .i64 2) ∧ Below w.heap.size w w' := by
 go_enter Try.func12, Try.ntmps12
 go_wp2
 go_ret
 exact ⟨rfl, emit_Check.bel _ _ _⟩
set_option maxHeartbeats 8000000 in
set_option maxRecDepth 100000 in
theorem emit_Check.k4_b (n m : Int) (t : ByteArray) (w : World) (h1 : decide (0 ≤ n) = true) (h2 : decide (n ≤ 1) = false) (h3 : decide (n ≤ 7) = false) :
  Calls Try.prog 12 #[.agg #[.int .i64 4, .int .i64 n, .int .i64 m, .string t]] w fun e w' => e = .returned (.int .i64 2) ∧ Below w.heap.size w w' := by
 go_enter Try.func12, Try.ntmps12
 go_wp2
 go_ret
 exact ⟨rfl, emit_Check.bel _ _ _⟩
set_option maxHeartbeats 8000000 in
set_option maxRecDepth 100000 in
theorem emit_Check.k4_pc (n m : Int) (t : ByteArray) (w : World) (h1 : decide (0 ≤ n) = true) (h2 : decide (n ≤ 1) = true) (hm : (m == 0) = false) :
  Calls Try.prog 12 #[.agg #[.int .i64 4, .int .i64 n, .int .i64 m, .string t]] w fun e w' => e = .returned (.int .i64 2) ∧ Below w.heap.size w w' := by
 go_enter Try.func12, Try.ntmps12
 go_wp2
 go_ret
 exact ⟨rfl, emit_Check.bel _ _ _⟩
set_option maxHeartbeats 8000000 in
set_option maxRecDepth 100000 in
theorem emit_Check.k4_pd (n : Int) (t : ByteArray) (w : World) (h1 : decide (0 ≤ n) = true) (h2 : decide (n ≤ 1) = true) (ht : ¬ t.toList = []) (ht2 : t.toList.isEmpty = false) :
  Calls Try.prog 12 #[.agg #[.int .i64 4, .int .i64 n, .int .i64 0, .string t]] w fun e w' => e = .returned (.int .i64 2) ∧ Below w.heap.size w w' := by
 go_enter Try.func12, Try.ntmps12
 go_wp2
 go_ret
 exact ⟨rfl, emit_Check.bel _ _ _⟩
set_option maxHeartbeats 8000000 in
set_option maxRecDepth 100000 in
theorem emit_Check.k4_pe (n : Int) (t : ByteArray) (w : World) (h1 : decide (0 ≤ n) = true) (h2 : decide (n ≤ 1) = true) (ht : t.toList = []) :
  Calls Try.prog 12 #[.agg #[.int .i64 4, .int .i64 n, .int .i64 0, .string t]] w fun e w' => e = .returned (.int .i64 0) ∧ Below w.heap.size w w' := by
 go_enter Try.func12, Try.ntmps12
 go_wp2
 go_ret
 exact ⟨rfl, emit_Check.bel _ _ _⟩
set_option maxHeartbeats 8000000 in
set_option maxRecDepth 100000 in
theorem emit_Check.k4_qc (n m : Int) (t : ByteArray) (w : World) (h1 : decide (0 ≤ n) = true) (h2 : decide (n ≤ 1) = false) (h3 : decide (n ≤ 7) = true) (hm : (m == 0) = false) :
  Calls Try.prog 12 #[.agg #[.int .i64 4, .int .i64 n, .int .i64 m, .string t]] w fun e w' => e = .returned (.int .i64 2) ∧ Below w.heap.size w w' := by
 go_enter Try.func12, Try.ntmps12
 go_wp2
 go_ret
 exact ⟨rfl, emit_Check.bel _ _ _⟩
set_option maxHeartbeats 8000000 in
set_option maxRecDepth 100000 in
theorem emit_Check.k4_qd (n : Int) (t : ByteArray) (w : World) (h1 : decide (0 ≤ n) = true) (h2 : decide (n ≤ 1) = false) (h3 : decide (n ≤ 7) = true) (ht : ¬ t.toList = []) (ht2 : t.toList.isEmpty = false) :
  Calls Try.prog 12 #[.agg #[.int .i64 4, .int .i64 n, .int .i64 0, .string t]] w fun e w' => e = .returned (.int .i64 2) ∧ Below w.heap.size w w' := by
 go_enter Try.func12, Try.ntmps12
 go_wp2
 go_ret
 exact ⟨rfl, emit_Check.bel _ _ _⟩
set_option maxHeartbeats 8000000 in
set_option maxRecDepth 100000 in
theorem emit_Check.k4_qe (n : Int) (t : ByteArray) (w : World) (h1 : decide (0 ≤ n) = true) (h2 : decide (n ≤ 1) = false) (h3 : decide (n ≤ 7) = true) (ht : t.toList = []) :
  Calls Try.prog 12 #[.agg #[.int .i64 4, .int .i64 n, .int .i64 0, .string t]] w fun e w' => e = .returned (.int .i64 0) ∧ Below w.heap.size w w' := by
 go_enter Try.func12, Try.ntmps12
 go_wp2
 go_ret
 exact ⟨rfl, emit_Check.bel _ _ _⟩
set_option maxHeartbeats 8000000 in
set_option maxRecDepth 100000 in
theorem emit_Check.k5_a (n m : Int) (t : ByteArray) (w : World) (h1 : decide (0 ≤ n) = false) :
  Calls Try.prog 12 #[.agg #[.int .i64 5, .int .i64 n, .int .i64 m, .string t]] w fun e w' => e = .returned (.int .i64 2) ∧ Below w.heap.size w w' := by
 go_enter Try.func12, Try.ntmps12
 go_wp2
 go_ret
 exact ⟨rfl, emit_Check.bel _ _ _⟩
set_option maxHeartbeats 8000000 in
set_option maxRecDepth 100000 in
theorem emit_Check.k5_b (n m : Int) (t : ByteArray) (w : World) (h1 : decide (0 ≤ n) = true) (h2 : decide (n ≤ 1) = false) :
  Calls Try.prog 12 #[.agg #[.int .i64 5, .int .i64 n, .int .i64 m, .string t]] w fun e w' => e = .returned (.int .i64 2) ∧ Below w.heap.size w w' := by
 go_enter Try.func12, Try.ntmps12
 go_wp2
 go_ret
 exact ⟨rfl, emit_Check.bel _ _ _⟩
set_option maxHeartbeats 8000000 in
set_option maxRecDepth 100000 in
theorem emit_Check.k5_pc (n m : Int) (t : ByteArray) (w : World) (h1 : decide (0 ≤ n) = true) (h2 : decide (n ≤ 1) = true) (hm : (m == 0) = false) :
  Calls Try.prog 12 #[.agg #[.int .i64 5, .int .i64 n, .int .i64 m, .string t]] w fun e w' => e = .returned (.int .i64 2) ∧ Below w.heap.size w w' := by
 go_enter Try.func12, Try.ntmps12
 go_wp2
 go_ret
 exact ⟨rfl, emit_Check.bel _ _ _⟩
set_option maxHeartbeats 8000000 in
set_option maxRecDepth 100000 in
theorem emit_Check.k5_pd (n : Int) (t : ByteArray) (w : World) (h1 : decide (0 ≤ n) = true) (h2 : decide (n ≤ 1) = true) (ht : ¬ t.toList = []) (ht2 : t.toList.isEmpty = false) :
  Calls Try.prog 12 #[.agg #[.int .i64 5, .int .i64 n, .int .i64 0, .string t]] w fun e w' => e = .returned (.int .i64 2) ∧ Below w.heap.size w w' := by
 go_enter Try.func12, Try.ntmps12
 go_wp2
 go_ret
 exact ⟨rfl, emit_Check.bel _ _ _⟩
set_option maxHeartbeats 8000000 in
set_option maxRecDepth 100000 in
theorem emit_Check.k5_pe (n : Int) (t : ByteArray) (w : World) (h1 : decide (0 ≤ n) = true) (h2 : decide (n ≤ 1) = true) (ht : t.toList = []) :
  Calls Try.prog 12 #[.agg #[.int .i64 5, .int .i64 n, .int .i64 0, .string t]] w fun e w' => e = .returned (.int .i64 0) ∧ Below w.heap.size w w' := by
 go_enter Try.func12, Try.ntmps12
 go_wp2
 go_ret
 exact ⟨rfl, emit_Check.bel _ _ _⟩
set_option maxHeartbeats 8000000 in
set_option maxRecDepth 100000 in
theorem emit_Check.other (k n m : Int) (t : ByteArray) (w : World) (h0 : (k == 0) = false) (h1 : (k == 1) = false) (h2 : (k == 2) = false) (h3 : (k == 3) = false) (h4 : (k == 4) = false) (h5 : (k == 5) = false) (h6 : (k == 6) = false) (h7 : (k == 7) = false) (h8 : (k == 8) = false) :
  Calls Try.prog 12 #[.agg #[.int .i64 k, .int .i64 n, .int .i64 m, .string t]] w fun e w' => e = .returned (.int .i64 2) ∧ Below w.heap.size w w' := by
 go_enter Try.func12, Try.ntmps12
 go_wp2
 go_ret
 exact ⟨rfl, emit_Check.bel _ _ _⟩
set_option maxHeartbeats 8000000 in
set_option maxRecDepth 100000 in
theorem emit_Check.text (n m : Int) (t : ByteArray) (b : Bool) (r : Int) (w : World) (hb : emit_plain.f t = some b) (hr : (if b = true then (if n = 0 then (if m = 0 then (0 : Int) else 2) else 2) else 2) = r) :
  Calls Try.prog 12 #[.agg #[.int .i64 0, .int .i64 n, .int .i64 m, .string t]] w fun e w' => e = .returned (.int .i64 r) ∧ Below w.heap.size w w' := by
 have HP := Aside0.mk (fun W => emit_plain.calls t b W hb)
 clear hb
 have hcell : ∀ w1, Below ((w.alloc (.cells #[.int .i64 0, .int .i64 n, .int .i64 m, .string t] 31)).alloc (.cells #[.int .i64 0, .int .i64 0, .int .i64 0, .string t] 31)).heap.size ((w.alloc (.cells #[.int .i64 0, .int .i64 n, .int .i64 m, .string t] 31)).alloc (.cells #[.int .i64 0, .int .i64 0, .int .i64 0, .string t] 31)) w1 → w1.cell? ⟨w.heap.size, 0, Option.none⟩ = some (.int .i64 0) ∧ w1.cell? ⟨w.heap.size, 1, Option.none⟩ = some (.int .i64 n) ∧ w1.cell? ⟨w.heap.size, 2, Option.none⟩ = some (.int .i64 m) ∧ w1.cell? ⟨w.heap.size, 3, Option.none⟩ = some (.string t) ∧ w1.cell? ⟨w.heap.size + 1, 0, Option.none⟩ = some (.int .i64 0) ∧ w1.cell? ⟨w.heap.size + 1, 1, Option.none⟩ = some (.int .i64 0) ∧ w1.cell? ⟨w.heap.size + 1, 2, Option.none⟩ = some (.int .i64 0) ∧ w1.cell? ⟨w.heap.size + 1, 3, Option.none⟩ = some (.string t) := by
  intro w1 hb1
  refine ⟨?_, ?_, ?_, ?_, ?_, ?_, ?_, ?_⟩ <;> exact (hb1.cell (by simp; try omega)).trans (by simp)
 have HC := Aside0.mk hcell
 have HR := Aside0.mk hr
 clear hcell hr
 go_enter Try.func12, Try.ntmps12
 go_wp2_with fail
 refine (HP.out _).mono ?_
 rintro e w1 ⟨rfl, hb1⟩
 obtain ⟨q0, q1, q2, q3, q4, q5, q6, q7⟩ := HC.out w1 hb1
 have HB : Aside0 (Below w.heap.size w w1) := ⟨below_then (emit_Check.bel _ _ _) (emit_Check.bel _ _ _).size hb1⟩
 clear HP HC hb1
 cases b with
 | false =>
  obtain rfl : (2 : Int) = r := HR.out
  go_wp2
  go_ret
  exact ⟨rfl, HB.out⟩
 | true =>
  by_cases hn : n = 0
  ·subst hn
   by_cases hm : m = 0
   ·subst hm
    obtain rfl : (0 : Int) = r := HR.out
    go_wp2
    go_ret
    exact ⟨rfl, HB.out⟩
   ·have hm2 : (m == 0) = false := beq_eq_false_iff_ne.mpr hm
    obtain rfl : (2 : Int) = r := by rw [← HR.out]; simp [hm]
    clear hm HR
    go_wp2
    go_ret
    exact ⟨rfl, HB.out⟩
  ·have hn2 : (n == 0) = false := beq_eq_false_iff_ne.mpr hn
   obtain rfl : (2 : Int) = r := by rw [← HR.out]; simp [hn]
   clear hn HR
   go_wp2
   go_ret
   exact ⟨rfl, HB.out⟩
theorem emit_Check.calls (a0_0 : Int) (a0_1 : Int) (a0_2 : Int) (a0_3 : ByteArray) (r : Int) (w : World) (h : emit_Check.f a0_0 a0_1 a0_2 a0_3 = some r) :
  Calls Try.prog 12 #[.agg #[.int .i64 a0_0, .int .i64 a0_1, .int .i64 a0_2, .string a0_3]] w fun e w' => e = .returned (.int .i64 r) ∧ Below w.heap.size w w' := by
 have hte : ¬ a0_3.toList = [] → a0_3.toList.isEmpty = false := fun hq => by
  cases hz : a0_3.toList with
  | nil => exact absurd hz hq
  | cons x xs => rfl
 unfold emit_Check.f at h
 by_cases c0 : a0_0 = 0
 ·rw [if_pos c0] at h
  subst c0
  obtain ⟨b, hb, h⟩ := Option.bind_eq_some_iff.mp h
  refine emit_Check.text _ _ _ _ _ _ hb ?_
  apply Option.some.inj
  rw [← h]
  repeat' split
  all_goals rfl
 rw [if_neg c0] at h
 by_cases c1 : a0_0 = 1
 ·rw [if_pos c1] at h
  subst c1
  by_cases q5 : 1 ≤ a0_2
  ·rw [if_pos q5] at h
   by_cases q4 : a0_2 ≤ 1000
   ·rw [if_pos q4] at h
    by_cases q3 : 1 ≤ a0_1
    ·rw [if_pos q3] at h
     by_cases q2 : a0_1 ≤ 1000
     ·rw [if_pos q2] at h
      by_cases q1 : a0_3.toList = []
      ·rw [if_pos q1] at h
       obtain rfl := Option.some.inj h
       exact emit_Check.k1_f _ _ _ _ (decide_eq_true q5) (decide_eq_true q4) (decide_eq_true q3) (decide_eq_true q2) q1
      ·rw [if_neg q1] at h
       obtain rfl := Option.some.inj h
       exact emit_Check.k1_e _ _ _ _ (decide_eq_true q5) (decide_eq_true q4) (decide_eq_true q3) (decide_eq_true q2) q1 (hte q1)
     ·rw [if_neg q2] at h
      obtain rfl := Option.some.inj h
      exact emit_Check.k1_d _ _ _ _ (decide_eq_true q5) (decide_eq_true q4) (decide_eq_true q3) (decide_eq_false q2)
    ·rw [if_neg q3] at h
     obtain rfl := Option.some.inj h
     exact emit_Check.k1_c _ _ _ _ (decide_eq_true q5) (decide_eq_true q4) (decide_eq_false q3)
   ·rw [if_neg q4] at h
    obtain rfl := Option.some.inj h
    exact emit_Check.k1_b _ _ _ _ (decide_eq_true q5) (decide_eq_false q4)
  ·rw [if_neg q5] at h
   obtain rfl := Option.some.inj h
   exact emit_Check.k1_a _ _ _ _ (decide_eq_false q5)
 rw [if_neg c1] at h
 by_cases c4 : a0_0 = 4
 ·rw [if_pos c4] at h
  subst c4
  by_cases q9 : 0 ≤ a0_1
  ·rw [if_pos q9] at h
   by_cases q8 : a0_1 ≤ 7
   ·rw [if_pos q8] at h
    by_cases q7 : a0_2 = 0
    ·rw [if_pos q7] at h
     by_cases q6 : a0_3.toList = []
     ·rw [if_pos q6] at h
      obtain rfl := Option.some.inj h
      subst q7
      by_cases z : a0_1 ≤ 1
      ·exact emit_Check.k4_pe _ _ _ (decide_eq_true q9) (decide_eq_true z) q6
      ·exact emit_Check.k4_qe _ _ _ (decide_eq_true q9) (decide_eq_false z) (decide_eq_true q8) q6
     ·rw [if_neg q6] at h
      obtain rfl := Option.some.inj h
      subst q7
      by_cases z : a0_1 ≤ 1
      ·exact emit_Check.k4_pd _ _ _ (decide_eq_true q9) (decide_eq_true z) q6 (hte q6)
      ·exact emit_Check.k4_qd _ _ _ (decide_eq_true q9) (decide_eq_false z) (decide_eq_true q8) q6 (hte q6)
    ·rw [if_neg q7] at h
     obtain rfl := Option.some.inj h
     by_cases z : a0_1 ≤ 1
     ·exact emit_Check.k4_pc _ _ _ _ (decide_eq_true q9) (decide_eq_true z) (beq_eq_false_iff_ne.mpr q7)
     ·exact emit_Check.k4_qc _ _ _ _ (decide_eq_true q9) (decide_eq_false z) (decide_eq_true q8) (beq_eq_false_iff_ne.mpr q7)
   ·rw [if_neg q8] at h
    obtain rfl := Option.some.inj h
    exact emit_Check.k4_b _ _ _ _ (decide_eq_true q9) (decide_eq_false (by omega)) (decide_eq_false q8)
  ·rw [if_neg q9] at h
   obtain rfl := Option.some.inj h
   exact emit_Check.k4_a _ _ _ _ (decide_eq_false q9)
 rw [if_neg c4] at h
 by_cases c5 : a0_0 = 5
 ·rw [if_pos c5] at h
  subst c5
  by_cases q13 : 0 ≤ a0_1
  ·rw [if_pos q13] at h
   by_cases q12 : a0_1 ≤ 1
   ·rw [if_pos q12] at h
    by_cases q11 : a0_2 = 0
    ·rw [if_pos q11] at h
     by_cases q10 : a0_3.toList = []
     ·rw [if_pos q10] at h
      obtain rfl := Option.some.inj h
      subst q11; exact emit_Check.k5_pe _ _ _ (decide_eq_true q13) (decide_eq_true q12) q10
     ·rw [if_neg q10] at h
      obtain rfl := Option.some.inj h
      subst q11; exact emit_Check.k5_pd _ _ _ (decide_eq_true q13) (decide_eq_true q12) q10 (hte q10)
    ·rw [if_neg q11] at h
     obtain rfl := Option.some.inj h
     exact emit_Check.k5_pc _ _ _ _ (decide_eq_true q13) (decide_eq_true q12) (beq_eq_false_iff_ne.mpr q11)
   ·rw [if_neg q12] at h
    obtain rfl := Option.some.inj h
    exact emit_Check.k5_b _ _ _ _ (decide_eq_true q13) (decide_eq_false q12)
  ·rw [if_neg q13] at h
   obtain rfl := Option.some.inj h
   exact emit_Check.k5_a _ _ _ _ (decide_eq_false q13)
 rw [if_neg c5] at h
 by_cases c : a0_0 = 2 ∨ a0_0 = 3 ∨ a0_0 = 6 ∨ a0_0 = 7 ∨ a0_0 = 8
 ·rw [if_pos c] at h
  obtain rfl := Option.some.inj h
  unfold emit_Check.none_
  rcases c with c | c | c | c | c
  ·subst c
   by_cases z0 : a0_1 = 0
   ·rw [if_pos z0]
    subst z0
    by_cases z1 : a0_2 = 0
    ·rw [if_pos z1]
     subst z1
     by_cases z2 : a0_3.toList = []
     ·rw [if_pos z2]; exact emit_Check.k2_d _ _ z2
     ·rw [if_neg z2]; exact emit_Check.k2_c _ _ z2 (hte z2)
    ·rw [if_neg z1]; exact emit_Check.k2_b _ _ _ (beq_eq_false_iff_ne.mpr z1)
   ·rw [if_neg z0]; exact emit_Check.k2_a _ _ _ _ (beq_eq_false_iff_ne.mpr z0)
  ·subst c
   by_cases z0 : a0_1 = 0
   ·rw [if_pos z0]
    subst z0
    by_cases z1 : a0_2 = 0
    ·rw [if_pos z1]
     subst z1
     by_cases z2 : a0_3.toList = []
     ·rw [if_pos z2]; exact emit_Check.k3_d _ _ z2
     ·rw [if_neg z2]; exact emit_Check.k3_c _ _ z2 (hte z2)
    ·rw [if_neg z1]; exact emit_Check.k3_b _ _ _ (beq_eq_false_iff_ne.mpr z1)
   ·rw [if_neg z0]; exact emit_Check.k3_a _ _ _ _ (beq_eq_false_iff_ne.mpr z0)
  ·subst c
   by_cases z0 : a0_1 = 0
   ·rw [if_pos z0]
    subst z0
    by_cases z1 : a0_2 = 0
    ·rw [if_pos z1]
     subst z1
     by_cases z2 : a0_3.toList = []
     ·rw [if_pos z2]; exact emit_Check.k6_d _ _ z2
     ·rw [if_neg z2]; exact emit_Check.k6_c _ _ z2 (hte z2)
    ·rw [if_neg z1]; exact emit_Check.k6_b _ _ _ (beq_eq_false_iff_ne.mpr z1)
   ·rw [if_neg z0]; exact emit_Check.k6_a _ _ _ _ (beq_eq_false_iff_ne.mpr z0)
  ·subst c
   by_cases z0 : a0_1 = 0
   ·rw [if_pos z0]
    subst z0
    by_cases z1 : a0_2 = 0
    ·rw [if_pos z1]
     subst z1
     by_cases z2 : a0_3.toList = []
     ·rw [if_pos z2]; exact emit_Check.k7_d _ _ z2
     ·rw [if_neg z2]; exact emit_Check.k7_c _ _ z2 (hte z2)
    ·rw [if_neg z1]; exact emit_Check.k7_b _ _ _ (beq_eq_false_iff_ne.mpr z1)
   ·rw [if_neg z0]; exact emit_Check.k7_a _ _ _ _ (beq_eq_false_iff_ne.mpr z0)
  ·subst c
   by_cases z0 : a0_1 = 0
   ·rw [if_pos z0]
    subst z0
    by_cases z1 : a0_2 = 0
    ·rw [if_pos z1]
     subst z1
     by_cases z2 : a0_3.toList = []
     ·rw [if_pos z2]; exact emit_Check.k8_d _ _ z2
     ·rw [if_neg z2]; exact emit_Check.k8_c _ _ z2 (hte z2)
    ·rw [if_neg z1]; exact emit_Check.k8_b _ _ _ (beq_eq_false_iff_ne.mpr z1)
   ·rw [if_neg z0]; exact emit_Check.k8_a _ _ _ _ (beq_eq_false_iff_ne.mpr z0)
 ·rw [if_neg c] at h
  obtain rfl := Option.some.inj h
  exact emit_Check.other _ _ _ _ _ (beq_eq_false_iff_ne.mpr (by omega)) (beq_eq_false_iff_ne.mpr (by omega)) (beq_eq_false_iff_ne.mpr (by omega)) (beq_eq_false_iff_ne.mpr (by omega)) (beq_eq_false_iff_ne.mpr (by omega)) (beq_eq_false_iff_ne.mpr (by omega)) (beq_eq_false_iff_ne.mpr (by omega)) (beq_eq_false_iff_ne.mpr (by omega)) (beq_eq_false_iff_ne.mpr (by omega))

-- NOT PRINTED: function 65 (num_laid_1)

/-! ### num_laid: function 52 -/
def num_laid.d (n : Int) : ByteArray := (⟨#[48, 49, 50, 51, 52, 53, 54, 55, 56, 57, 65, 66, 67, 68, 69, 70]⟩ : ByteArray).extract n.toNat (n.toNat + 1)
def num_laid.l (b least : Int) : Nat → Int → ByteArray → Option ByteArray
 | 0, _, _ => none
 | k + 1, u, s => if 0 < u then num_laid.l b least k (u / b) (num_laid.d (u % b) ++ s) else if (s.size : Int) < least then num_laid.l b least k (u / b) (num_laid.d (u % b) ++ s) else some s
theorem num_laid.d_size (n : Int) : (num_laid.d n).size ≤ 1 := by
 unfold num_laid.d
 rw [ByteArray.size_extract]
 omega
theorem num_laid.laid (b least : Int) (w : World) :
  Calls Try.prog 52 #[.int .u64 b, .int .i64 least] w fun e w' => e = .returned (.func (.func 65) #[] #[.pointer (some ⟨w.heap.size + 1, 0, none⟩), .pointer (some ⟨w.heap.size, 0, none⟩)]) ∧ w' = (w.alloc (.cells #[.int .u64 b] 58)).alloc (.cells #[.int .i64 least] 3) := by
 go_enter Try.func52, Try.ntmps52
 go_wp2
 go_ret
 exact ⟨rfl, rfl⟩
set_option maxHeartbeats 8000000 in
set_option maxRecDepth 100000 in
theorem num_laid.go10 (least : Int) (p q : Nat) (u : Int) (r : ByteArray) (w : World) (hu0 : 0 ≤ u) (hu1 : u ≤ 18446744073709551615) (hb : w.cell? ⟨q, 0, none⟩ = some (.int .u64 10)) (hl : w.cell? ⟨p, 0, none⟩ = some (.int .i64 least)) (h : num_laid.l 10 least 64 u (⟨#[]⟩ : ByteArray) = some r) :
  Calls Try.prog 65 #[.int .u64 u, .pointer (some ⟨p, 0, none⟩), .pointer (some ⟨q, 0, none⟩)] w fun e w' => e = .returned (.string r) ∧ Drawn0 w w' := by
 have HA := Aside0.mk h
 have HU1 := Aside0.mk hu1
 clear h hu1
 go_enter Try.func65, Try.ntmps65
 go_wp2
 go_loopg [0, 5] 64 (fun kq v0 v5 w' => ∃ (x : Int) (s : ByteArray), v0 = .int .u64 x ∧ v5 = .string s ∧ 0 ≤ x ∧ Aside0 (x ≤ 18446744073709551615) ∧ s.size + kq ≤ 64 ∧ Aside0 (num_laid.l 10 least kq x s = some r) ∧ Drawn0 w w')
 case atStart => exact ⟨u, (⟨#[]⟩ : ByteArray), rfl, rfl, hu0, HU1, by decide, HA, Drawn0.refl _⟩
 case round =>
  clear HA HU1
  obtain ⟨x, s, rfl, rfl, hx0, HX1, hs, HA, ⟨nd, rfl⟩⟩ := hrel
  cases gk with
  | zero => exact absurd HA.out (by simp [num_laid.l])
  | succ kq =>
  have hm0 : 0 ≤ x % 10 := by omega
  have hm1 : x % 10 < 10 := by omega
  have hd0 : 0 ≤ x / 10 := by omega
  have HD1 : Aside0 (x / 10 ≤ 18446744073709551615) := ⟨by have := HX1.out; omega⟩
  have hsz := num_laid.d_size (x % 10)
  have h := HA.out
  clear HA
  simp only [num_laid.l] at h
  by_cases c : 0 < x
  ·rw [if_pos c] at h
   have HA := Aside0.mk h
   clear h
   have cb : decide (0 < x) = true := decide_eq_true c
   go_wp2
   obtain ⟨m, hm⟩ : ∃ m : Nat, x.tmod 10 = (m : Int) := ⟨(x % 10).toNat, by rw [Int.tmod_eq_emod_of_nonneg hx0]; omega⟩
   have hm' : Aside0 (x % 10 = (m : Int)) := ⟨by rw [← Int.tmod_eq_emod_of_nonneg hx0]; exact hm⟩
   have hmlt : m < 10 := by have := hm'.out; omega
   have hwr : IntKind.u64.wrap ((m : Int) + 1) = (m : Int) + 1 := IntWalk.u64_in _ (by omega)
   have h1 : (0 : Int) ≤ (m : Int) + 1 := by omega
   have h2 : (0 : Int) ≤ (m : Int) := by omega
   have h3 : ((m : Int) + 1).toNat = m + 1 := by omega
   have h4 : (m : Int) ≤ (m : Int) + 1 := by omega
   have h5 : (m : Int) + 1 ≤ 16 := by omega
   have h6 : m ≤ m + 1 := by omega
   have h7 : m + 1 ≤ 16 := by omega
   clear hm0 hm1
   go_quiet (fail)
   clear hm hwr h1 h2 h3 h4 h5 h6 h7
   go_wp2
   go_roundg kq
   case measure => omega
   case rel =>
    have e : num_laid.d (x % 10) = (⟨#[48, 49, 50, 51, 52, 53, 54, 55, 56, 57, 65, 66, 67, 68, 69, 70]⟩ : ByteArray).extract m (m + 1) := by
     unfold num_laid.d
     rw [hm'.out, Int.toNat_natCast]
    rw [e] at hsz
    have hq : IntKind.u64.wrap (x.tdiv 10) = x / 10 := by rw [Int.tdiv_eq_ediv_of_nonneg hx0]; exact IntWalk.u64_in _ ⟨hd0, HD1.out⟩
    refine ⟨x / 10, (⟨#[48, 49, 50, 51, 52, 53, 54, 55, 56, 57, 65, 66, 67, 68, 69, 70]⟩ : ByteArray).extract m (m + 1) ++ s, (by first | rfl | rw [hq]), rfl, hd0, HD1, by rw [ByteArray.size_append]; omega, ⟨by rw [← e]; exact HA.out⟩, ?_⟩
    repeat (first | exact Drawn0.refl _ | apply Drawn0.step)
  ·rw [if_neg c] at h
   have cb : decide (0 < x) = false := decide_eq_false c
   by_cases c2 : (s.size : Int) < least
   ·rw [if_pos c2] at h
    have HA := Aside0.mk h
    clear h
    have c2b : decide ((s.size : Int) < least) = true := decide_eq_true c2
    go_wp2
    obtain ⟨m, hm⟩ : ∃ m : Nat, x.tmod 10 = (m : Int) := ⟨(x % 10).toNat, by rw [Int.tmod_eq_emod_of_nonneg hx0]; omega⟩
    have hm' : Aside0 (x % 10 = (m : Int)) := ⟨by rw [← Int.tmod_eq_emod_of_nonneg hx0]; exact hm⟩
    have hmlt : m < 10 := by have := hm'.out; omega
    have hwr : IntKind.u64.wrap ((m : Int) + 1) = (m : Int) + 1 := IntWalk.u64_in _ (by omega)
    have h1 : (0 : Int) ≤ (m : Int) + 1 := by omega
    have h2 : (0 : Int) ≤ (m : Int) := by omega
    have h3 : ((m : Int) + 1).toNat = m + 1 := by omega
    have h4 : (m : Int) ≤ (m : Int) + 1 := by omega
    have h5 : (m : Int) + 1 ≤ 16 := by omega
    have h6 : m ≤ m + 1 := by omega
    have h7 : m + 1 ≤ 16 := by omega
    clear hm0 hm1
    go_quiet (fail)
    clear hm hwr h1 h2 h3 h4 h5 h6 h7
    go_wp2
    go_roundg kq
    case measure => omega
    case rel =>
     have e : num_laid.d (x % 10) = (⟨#[48, 49, 50, 51, 52, 53, 54, 55, 56, 57, 65, 66, 67, 68, 69, 70]⟩ : ByteArray).extract m (m + 1) := by
      unfold num_laid.d
      rw [hm'.out, Int.toNat_natCast]
     rw [e] at hsz
     have hq : IntKind.u64.wrap (x.tdiv 10) = x / 10 := by rw [Int.tdiv_eq_ediv_of_nonneg hx0]; exact IntWalk.u64_in _ ⟨hd0, HD1.out⟩
     refine ⟨x / 10, (⟨#[48, 49, 50, 51, 52, 53, 54, 55, 56, 57, 65, 66, 67, 68, 69, 70]⟩ : ByteArray).extract m (m + 1) ++ s, (by first | rfl | rw [hq]), rfl, hd0, HD1, by rw [ByteArray.size_append]; omega, ⟨by rw [← e]; exact HA.out⟩, ?_⟩
     repeat (first | exact Drawn0.refl _ | apply Drawn0.step)
   ·rw [if_neg c2] at h
    obtain rfl := Option.some.inj h
    clear h
    have c2b : decide ((s.size : Int) < least) = false := decide_eq_false c2
    go_wp2
    go_ret
    exact ⟨rfl, by repeat (first | exact Drawn0.refl _ | apply Drawn0.step)⟩
set_option maxHeartbeats 8000000 in
set_option maxRecDepth 100000 in
theorem num_laid.go16 (least : Int) (p q : Nat) (u : Int) (r : ByteArray) (w : World) (hu0 : 0 ≤ u) (hu1 : u ≤ 18446744073709551615) (hb : w.cell? ⟨q, 0, none⟩ = some (.int .u64 16)) (hl : w.cell? ⟨p, 0, none⟩ = some (.int .i64 least)) (h : num_laid.l 16 least 64 u (⟨#[]⟩ : ByteArray) = some r) :
  Calls Try.prog 65 #[.int .u64 u, .pointer (some ⟨p, 0, none⟩), .pointer (some ⟨q, 0, none⟩)] w fun e w' => e = .returned (.string r) ∧ Drawn0 w w' := by
 have HA := Aside0.mk h
 have HU1 := Aside0.mk hu1
 clear h hu1
 go_enter Try.func65, Try.ntmps65
 go_wp2
 go_loopg [0, 5] 64 (fun kq v0 v5 w' => ∃ (x : Int) (s : ByteArray), v0 = .int .u64 x ∧ v5 = .string s ∧ 0 ≤ x ∧ Aside0 (x ≤ 18446744073709551615) ∧ s.size + kq ≤ 64 ∧ Aside0 (num_laid.l 16 least kq x s = some r) ∧ Drawn0 w w')
 case atStart => exact ⟨u, (⟨#[]⟩ : ByteArray), rfl, rfl, hu0, HU1, by decide, HA, Drawn0.refl _⟩
 case round =>
  clear HA HU1
  obtain ⟨x, s, rfl, rfl, hx0, HX1, hs, HA, ⟨nd, rfl⟩⟩ := hrel
  cases gk with
  | zero => exact absurd HA.out (by simp [num_laid.l])
  | succ kq =>
  have hm0 : 0 ≤ x % 16 := by omega
  have hm1 : x % 16 < 16 := by omega
  have hd0 : 0 ≤ x / 16 := by omega
  have HD1 : Aside0 (x / 16 ≤ 18446744073709551615) := ⟨by have := HX1.out; omega⟩
  have hsz := num_laid.d_size (x % 16)
  have h := HA.out
  clear HA
  simp only [num_laid.l] at h
  by_cases c : 0 < x
  ·rw [if_pos c] at h
   have HA := Aside0.mk h
   clear h
   have cb : decide (0 < x) = true := decide_eq_true c
   go_wp2
   obtain ⟨m, hm⟩ : ∃ m : Nat, x.tmod 16 = (m : Int) := ⟨(x % 16).toNat, by rw [Int.tmod_eq_emod_of_nonneg hx0]; omega⟩
   have hm' : Aside0 (x % 16 = (m : Int)) := ⟨by rw [← Int.tmod_eq_emod_of_nonneg hx0]; exact hm⟩
   have hmlt : m < 16 := by have := hm'.out; omega
   have hwr : IntKind.u64.wrap ((m : Int) + 1) = (m : Int) + 1 := IntWalk.u64_in _ (by omega)
   have h1 : (0 : Int) ≤ (m : Int) + 1 := by omega
   have h2 : (0 : Int) ≤ (m : Int) := by omega
   have h3 : ((m : Int) + 1).toNat = m + 1 := by omega
   have h4 : (m : Int) ≤ (m : Int) + 1 := by omega
   have h5 : (m : Int) + 1 ≤ 16 := by omega
   have h6 : m ≤ m + 1 := by omega
   have h7 : m + 1 ≤ 16 := by omega
   clear hm0 hm1
   go_quiet (fail)
   clear hm hwr h1 h2 h3 h4 h5 h6 h7
   go_wp2
   go_roundg kq
   case measure => omega
   case rel =>
    have e : num_laid.d (x % 16) = (⟨#[48, 49, 50, 51, 52, 53, 54, 55, 56, 57, 65, 66, 67, 68, 69, 70]⟩ : ByteArray).extract m (m + 1) := by
     unfold num_laid.d
     rw [hm'.out, Int.toNat_natCast]
    rw [e] at hsz
    have hq : IntKind.u64.wrap (x.tdiv 16) = x / 16 := by rw [Int.tdiv_eq_ediv_of_nonneg hx0]; exact IntWalk.u64_in _ ⟨hd0, HD1.out⟩
    refine ⟨x / 16, (⟨#[48, 49, 50, 51, 52, 53, 54, 55, 56, 57, 65, 66, 67, 68, 69, 70]⟩ : ByteArray).extract m (m + 1) ++ s, (by first | rfl | rw [hq]), rfl, hd0, HD1, by rw [ByteArray.size_append]; omega, ⟨by rw [← e]; exact HA.out⟩, ?_⟩
    repeat (first | exact Drawn0.refl _ | apply Drawn0.step)
  ·rw [if_neg c] at h
   have cb : decide (0 < x) = false := decide_eq_false c
   by_cases c2 : (s.size : Int) < least
   ·rw [if_pos c2] at h
    have HA := Aside0.mk h
    clear h
    have c2b : decide ((s.size : Int) < least) = true := decide_eq_true c2
    go_wp2
    obtain ⟨m, hm⟩ : ∃ m : Nat, x.tmod 16 = (m : Int) := ⟨(x % 16).toNat, by rw [Int.tmod_eq_emod_of_nonneg hx0]; omega⟩
    have hm' : Aside0 (x % 16 = (m : Int)) := ⟨by rw [← Int.tmod_eq_emod_of_nonneg hx0]; exact hm⟩
    have hmlt : m < 16 := by have := hm'.out; omega
    have hwr : IntKind.u64.wrap ((m : Int) + 1) = (m : Int) + 1 := IntWalk.u64_in _ (by omega)
    have h1 : (0 : Int) ≤ (m : Int) + 1 := by omega
    have h2 : (0 : Int) ≤ (m : Int) := by omega
    have h3 : ((m : Int) + 1).toNat = m + 1 := by omega
    have h4 : (m : Int) ≤ (m : Int) + 1 := by omega
    have h5 : (m : Int) + 1 ≤ 16 := by omega
    have h6 : m ≤ m + 1 := by omega
    have h7 : m + 1 ≤ 16 := by omega
    clear hm0 hm1
    go_quiet (fail)
    clear hm hwr h1 h2 h3 h4 h5 h6 h7
    go_wp2
    go_roundg kq
    case measure => omega
    case rel =>
     have e : num_laid.d (x % 16) = (⟨#[48, 49, 50, 51, 52, 53, 54, 55, 56, 57, 65, 66, 67, 68, 69, 70]⟩ : ByteArray).extract m (m + 1) := by
      unfold num_laid.d
      rw [hm'.out, Int.toNat_natCast]
     rw [e] at hsz
     have hq : IntKind.u64.wrap (x.tdiv 16) = x / 16 := by rw [Int.tdiv_eq_ediv_of_nonneg hx0]; exact IntWalk.u64_in _ ⟨hd0, HD1.out⟩
     refine ⟨x / 16, (⟨#[48, 49, 50, 51, 52, 53, 54, 55, 56, 57, 65, 66, 67, 68, 69, 70]⟩ : ByteArray).extract m (m + 1) ++ s, (by first | rfl | rw [hq]), rfl, hd0, HD1, by rw [ByteArray.size_append]; omega, ⟨by rw [← e]; exact HA.out⟩, ?_⟩
     repeat (first | exact Drawn0.refl _ | apply Drawn0.step)
   ·rw [if_neg c2] at h
    obtain rfl := Option.some.inj h
    clear h
    have c2b : decide ((s.size : Int) < least) = false := decide_eq_false c2
    go_wp2
    go_ret
    exact ⟨rfl, by repeat (first | exact Drawn0.refl _ | apply Drawn0.step)⟩

/-! ### num_Dec: function 39 -/
def num_Dec.f (a0 : Int) : Option ByteArray := if a0 < 0 then (if -9223372036854775808 ≤ a0 then (num_laid.l 10 1 64 (-a0) (⟨#[]⟩ : ByteArray)).bind fun s => (if s.size ≤ 1000 then some ((⟨#[45]⟩ : ByteArray) ++ s) else none) else none) else (if a0 ≤ 9223372036854775807 then num_laid.l 10 1 64 a0 (⟨#[]⟩ : ByteArray) else none)
theorem num_Dec.neg (n : Int) (h0 : -9223372036854775808 ≤ n) (h1 : n < 0) : IntKind.u64.wrap (-(IntKind.u64.wrap n)) = -n := by
 rw [IntKind.wrap_u64, IntKind.wrap_u64]
 omega
theorem num_Dec.pos (n : Int) (h0 : 0 ≤ n) (h1 : n ≤ 9223372036854775807) : IntKind.u64.wrap n = n := by
 rw [IntKind.wrap_u64]
 omega
set_option maxHeartbeats 8000000 in
set_option maxRecDepth 100000 in
theorem num_Dec.calls (a0 : Int) (r : ByteArray) (w : World) (h : num_Dec.f a0 = some r) :
  Calls Try.prog 39 #[.int .i64 a0] w fun e w' => e = .returned (.string r) ∧ Below w.heap.size w w' := by
 unfold num_Dec.f at h
 by_cases c : a0 < 0
 ·rw [if_pos c] at h
  by_cases c1 : -9223372036854775808 ≤ a0
  ·rw [if_pos c1] at h
   obtain ⟨s, hs, h⟩ := Option.bind_eq_some_iff.mp h
   by_cases c3 : s.size ≤ 1000
   ·rw [if_pos c3] at h
    replace h := Option.some.inj h
    subst h
    have hn := Aside0.mk (num_Dec.neg a0 c1 c)
    have cb : decide (a0 < 0) = true := decide_eq_true c
    have hG := Aside0.mk (fun W h1 h2 => num_laid.go10 1 (w.heap.size + 1) w.heap.size (-a0) s W (by omega) (by omega) h1 h2 hs)
    clear c1 c h hs
    go_enter Try.func39, Try.ntmps39
    go_wp2_with fail
    refine (num_laid.laid 10 1 _).mono ?_
    rintro e w1 ⟨rfl, rfl⟩
    go_wp2_with fail
    rw [hn.out]
    refine (hG.out _ (by simp) (by simp)).mono ?_
    rintro e w2 ⟨rfl, ⟨nd, rfl⟩⟩
    clear hG hn
    have hsz : 1 + s.size ≤ 9223372036854775807 := by omega
    go_wp2_with fail
    go_ret
    exact ⟨rfl, pw_below_drewN (((Below.refl _ w).alloc (Nat.le_refl _) _).alloc (by simp) _) _⟩
   ·rw [if_neg c3] at h; cases h
  ·rw [if_neg c1] at h; cases h
 ·rw [if_neg c] at h
  by_cases c1 : a0 ≤ 9223372036854775807
  ·rw [if_pos c1] at h
   have hn := Aside0.mk (num_Dec.pos a0 (by omega) c1)
   have cb : decide (a0 < 0) = false := decide_eq_false c
   have hG := Aside0.mk (fun W h1 h2 => num_laid.go10 1 (w.heap.size + 1) w.heap.size a0 r W (by omega) (by omega) h1 h2 h)
   clear c1 c h
   go_enter Try.func39, Try.ntmps39
   go_wp2_with fail
   refine (num_laid.laid 10 1 _).mono ?_
   rintro e w1 ⟨rfl, rfl⟩
   go_wp2_with fail
   rw [hn.out]
   refine (hG.out _ (by simp) (by simp)).mono ?_
   rintro e w2 ⟨rfl, ⟨nd, rfl⟩⟩
   clear hG hn
   go_wp2_with fail
   go_ret
   exact ⟨rfl, pw_below_drewN (((Below.refl _ w).alloc (Nat.le_refl _) _).alloc (by simp) _) _⟩
  ·rw [if_neg c1] at h; cases h

end Go.Proofs.Ytddkmhkglmcihaa.PAll
