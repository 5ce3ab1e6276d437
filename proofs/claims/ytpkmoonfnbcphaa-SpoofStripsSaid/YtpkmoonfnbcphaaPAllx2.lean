-- Printed for this claim by the session's own program (wip/tool/hprint.py) over the kit's print; some functions' texts are the session's own.
import Derived.Test.YtpkmoonfnbcphaaPAllx0
import Derived.Test.YtpkmoonfnbcphaaPAllx1
namespace Go.Proofs.Ytpkmoonfnbcphaa.PAll
open Go.RowKit Go.Proofs.YtpkmoonfnbcphaaW.PrintWords Go.Proofs.YtpkmoonfnbcphaaW.PrintLast Go.Proofs.YtpkmoonfnbcphaaW.PrintMore
attribute [local go_sem] max2_int min2_int max_two min_two max_three min_three max_four min_four   -- for this text's walks alone
set_option linter.unusedVariables false
set_option linter.unusedSimpArgs false

/-! ### class_in: function 59 -/
def class_in.p (v : Int) (s : S92) : Bool := decide (s.f0 ≤ v) && decide (v ≤ s.f1)
def class_in.f (a0 : Int) (l1 : List S92) : Option Int := if l1.length < 9223372036854775807 then (if idx_span.g (class_in.p a0) l1 0 < 0 then some 0 else some (rd_T92 l1 (idx_span.g (class_in.p a0) l1 0)).f2) else none
set_option maxHeartbeats 8000000 in
set_option maxRecDepth 100000 in
theorem class_in.pred (v : Int) (B : Nat) (w W : World) (x : S92) (hB : B < w.heap.size) (hcell : w.cell? ⟨B, 0, none⟩ = some (.int .i64 v)) (hb : Below w.heap.size w W) :
  Calls Try.prog 80 (#[.agg #[.int .i64 x.f0, .int .i64 x.f1, .int .i64 x.f2]] ++ #[.pointer (some ⟨B, 0, none⟩)]) W fun e w' => e = .returned (.bool (class_in.p v x)) ∧ Below W.heap.size W w' := by
 have hc : W.cell? ⟨B, 0, none⟩ = some (.int .i64 v) := (hb.cell (p := ⟨B, 0, none⟩) hB).trans hcell
 have hBW : B < W.heap.size := Nat.lt_of_lt_of_le hB hb.size
 have hne : B ≠ W.heap.size := by omega
 have hu := Try.underlying92
 clear hb hcell
 show Calls Try.prog 80 #[.agg #[.int .i64 x.f0, .int .i64 x.f1, .int .i64 x.f2], .pointer (some ⟨B, 0, none⟩)] W _
 by_cases h1 : x.f0 ≤ v
 ·by_cases h2 : v ≤ x.f1
  ·have e : Aside0 (class_in.p v x = true) := ⟨by simp [class_in.p, h1, h2]⟩
   go_enter Try.func80, Try.ntmps80
   go_wp2
   go_ret
   exact ⟨by rw [e.out]; first | rfl | simp [*], (Below.refl _ _).alloc (Nat.le_refl _) _⟩
  ·have e : Aside0 (class_in.p v x = false) := ⟨by simp [class_in.p, h2]⟩
   go_enter Try.func80, Try.ntmps80
   go_wp2
   go_ret
   exact ⟨by rw [e.out]; first | rfl | simp [*], (Below.refl _ _).alloc (Nat.le_refl _) _⟩
 ·have e : Aside0 (class_in.p v x = false) := ⟨by simp [class_in.p, h1]⟩
  go_enter Try.func80, Try.ntmps80
  go_wp2
  go_ret
  exact ⟨by rw [e.out]; first | rfl | simp [*], (Below.refl _ _).alloc (Nat.le_refl _) _⟩
set_option maxHeartbeats 8000000 in
set_option maxRecDepth 100000 in
theorem class_in.calls (a0 : Int) (A1 : Option Addr) (c1 : Nat) (l1 : List (S92)) (r : Int) (w : World) (hr1 : Kd.C k92 w A1 l1.length l1) (hc1 : l1.length ≤ c1) (h : class_in.f a0 l1 = some r) :
  Calls Try.prog 59 #[.int .i64 a0, .slice A1 l1.length c1] w fun e w' => e = .returned (.int .i64 r) ∧ Below w.heap.size w w' := by
 unfold class_in.f at h
 split at h
 case isFalse => cases h
 rename_i hl
 have hu := Try.underlying92
 have eg : ∀ args w, (callFunc 80 args).run Try.prog w = .ok (.enter 80 args) w := enters_of Try.func80 (by kernel_rfl) rfl
 have hcall := idx_span.calls (class_in.p a0) 80 #[.pointer (some ⟨w.heap.size, 0, none⟩)] eg A1 c1 l1 (w.alloc (.cells #[.int .i64 a0] 3)) (Kd.C_below hr1 (below_alloc (Below.refl _ _) _)) hl
  (fun W x _ hb => class_in.pred a0 w.heap.size _ W x (by simp) (by simp) hb)
 have HR1 := Aside0.mk hr1
 have hlt := idx_span.g_lt (class_in.p a0) l1 0
 clear hr1 eg
 generalize idx_span.g (class_in.p a0) l1 0 = i at hcall h hlt
 have HC := Aside0.mk hcall
 clear hcall
 split at h
 ·rename_i hi
  obtain rfl := Option.some.inj h
  clear h
  have hd : decide (i < 0) = true := decide_eq_true hi
  clear hi hlt
  go_enter Try.func59, Try.ntmps59
  go_wp2_with fail
  refine HC.out.mono ?_
  rintro e w' ⟨rfl, hb'⟩
  clear HC
  go_wp2_with fail
  go_ret
  exact ⟨rfl, ((Below.refl _ w).alloc (Nat.le_refl _) _).trans (hb'.mono (by simp))⟩
 ·rename_i hi
  obtain rfl := Option.some.inj h
  clear h
  have hd : decide (i < 0) = false := decide_eq_false hi
  have hi0 : 0 ≤ i := by omega
  have hi1 : i < (l1.length : Int) := by
   rcases hlt with h | h <;> omega
  clear hi hlt
  go_enter Try.func59, Try.ntmps59
  go_wp2_with fail
  refine HC.out.mono ?_
  rintro e w' ⟨rfl, hb'⟩
  clear HC
  have hB : Below w.heap.size w w' := ((Below.refl _ w).alloc (Nat.le_refl _) _).trans (hb'.mono (by simp))
  obtain ⟨ad, e0, hx0, hx1, hx2⟩ := at_T92 (Kd.C_below HR1.out hB) i hi0 hi1
  cases e0
  have HB := Aside0.mk hB
  clear hB hb' hx0 hx1
  go_wp2_with fail
  go_ret
  exact ⟨rfl, HB.out⟩

/-! ### class_spans: function 60 -/
def class_spans.f  : Option ((List (S92))) := some (([(⟨0, 31, 4⟩ : S92), (⟨127, 127, 5⟩ : S92), (⟨128, 159, 6⟩ : S92), (⟨160, 160, 10⟩ : S92), (⟨5760, 5760, 10⟩ : S92), (⟨8192, 8202, 10⟩ : S92), (⟨8232, 8233, 10⟩ : S92), (⟨8239, 8239, 10⟩ : S92), (⟨8287, 8287, 10⟩ : S92), (⟨12288, 12288, 10⟩ : S92), (⟨173, 173, 8⟩ : S92), (⟨6155, 6158, 8⟩ : S92), (⟨8203, 8205, 8⟩ : S92), (⟨8288, 8292, 8⟩ : S92), (⟨65279, 65279, 8⟩ : S92), (⟨65529, 65531, 8⟩ : S92), (⟨1564, 1564, 7⟩ : S92), (⟨8206, 8207, 7⟩ : S92), (⟨8234, 8238, 7⟩ : S92), (⟨8294, 8297, 7⟩ : S92), (⟨768, 879, 9⟩ : S92), (⟨1155, 1161, 9⟩ : S92), (⟨1425, 1469, 9⟩ : S92), (⟨1552, 1562, 9⟩ : S92), (⟨1611, 1631, 9⟩ : S92), (⟨1750, 1756, 9⟩ : S92), (⟨6832, 6862, 9⟩ : S92), (⟨7616, 7679, 9⟩ : S92), (⟨8400, 8432, 9⟩ : S92), (⟨12330, 12335, 9⟩ : S92), (⟨12441, 12442, 9⟩ : S92), (⟨65024, 65039, 9⟩ : S92), (⟨65056, 65071, 9⟩ : S92), (⟨57344, 63743, 11⟩ : S92), (⟨64976, 65007, 11⟩ : S92), (⟨65520, 65528, 11⟩ : S92), (⟨65534, 65535, 11⟩ : S92), (⟨131070, 131071, 11⟩ : S92), (⟨262142, 1114111, 11⟩ : S92)] : List (S92)))
set_option maxHeartbeats 8000000 in
set_option maxRecDepth 100000 in
theorem class_spans.calls  (r : List (S92)) (w : World) (h : class_spans.f  = some r) :
  Calls Try.prog 60 #[] w fun e w' => ∃ v0_ : Value, e = .returned (v0_) ∧ Kd.R k92 92 w' w.heap.size (fun _ => True) v0_ r ∧ Below w.heap.size w w' := by
 have hu92 := Try.underlying92
 have HB := Aside0.mk (Below.refl w.heap.size w)
 have H : (some (([(⟨0, 31, 4⟩ : S92), (⟨127, 127, 5⟩ : S92), (⟨128, 159, 6⟩ : S92), (⟨160, 160, 10⟩ : S92), (⟨5760, 5760, 10⟩ : S92), (⟨8192, 8202, 10⟩ : S92), (⟨8232, 8233, 10⟩ : S92), (⟨8239, 8239, 10⟩ : S92), (⟨8287, 8287, 10⟩ : S92), (⟨12288, 12288, 10⟩ : S92), (⟨173, 173, 8⟩ : S92), (⟨6155, 6158, 8⟩ : S92), (⟨8203, 8205, 8⟩ : S92), (⟨8288, 8292, 8⟩ : S92), (⟨65279, 65279, 8⟩ : S92), (⟨65529, 65531, 8⟩ : S92), (⟨1564, 1564, 7⟩ : S92), (⟨8206, 8207, 7⟩ : S92), (⟨8234, 8238, 7⟩ : S92), (⟨8294, 8297, 7⟩ : S92), (⟨768, 879, 9⟩ : S92), (⟨1155, 1161, 9⟩ : S92), (⟨1425, 1469, 9⟩ : S92), (⟨1552, 1562, 9⟩ : S92), (⟨1611, 1631, 9⟩ : S92), (⟨1750, 1756, 9⟩ : S92), (⟨6832, 6862, 9⟩ : S92), (⟨7616, 7679, 9⟩ : S92), (⟨8400, 8432, 9⟩ : S92), (⟨12330, 12335, 9⟩ : S92), (⟨12441, 12442, 9⟩ : S92), (⟨65024, 65039, 9⟩ : S92), (⟨65056, 65071, 9⟩ : S92), (⟨57344, 63743, 11⟩ : S92), (⟨64976, 65007, 11⟩ : S92), (⟨65520, 65528, 11⟩ : S92), (⟨65534, 65535, 11⟩ : S92), (⟨131070, 131071, 11⟩ : S92), (⟨262142, 1114111, 11⟩ : S92)] : List (S92)))) = some r := h
 clear h
 obtain ⟨y109, hy109⟩ : ∃ y_ : List (S92), y_ = (([(⟨0, 31, 4⟩ : S92), (⟨127, 127, 5⟩ : S92), (⟨128, 159, 6⟩ : S92), (⟨160, 160, 10⟩ : S92), (⟨5760, 5760, 10⟩ : S92), (⟨8192, 8202, 10⟩ : S92), (⟨8232, 8233, 10⟩ : S92), (⟨8239, 8239, 10⟩ : S92), (⟨8287, 8287, 10⟩ : S92), (⟨12288, 12288, 10⟩ : S92), (⟨173, 173, 8⟩ : S92), (⟨6155, 6158, 8⟩ : S92), (⟨8203, 8205, 8⟩ : S92), (⟨8288, 8292, 8⟩ : S92), (⟨65279, 65279, 8⟩ : S92), (⟨65529, 65531, 8⟩ : S92), (⟨1564, 1564, 7⟩ : S92), (⟨8206, 8207, 7⟩ : S92), (⟨8234, 8238, 7⟩ : S92), (⟨8294, 8297, 7⟩ : S92), (⟨768, 879, 9⟩ : S92), (⟨1155, 1161, 9⟩ : S92), (⟨1425, 1469, 9⟩ : S92), (⟨1552, 1562, 9⟩ : S92), (⟨1611, 1631, 9⟩ : S92), (⟨1750, 1756, 9⟩ : S92), (⟨6832, 6862, 9⟩ : S92), (⟨7616, 7679, 9⟩ : S92), (⟨8400, 8432, 9⟩ : S92), (⟨12330, 12335, 9⟩ : S92), (⟨12441, 12442, 9⟩ : S92), (⟨65024, 65039, 9⟩ : S92), (⟨65056, 65071, 9⟩ : S92), (⟨57344, 63743, 11⟩ : S92), (⟨64976, 65007, 11⟩ : S92), (⟨65520, 65528, 11⟩ : S92), (⟨65534, 65535, 11⟩ : S92), (⟨131070, 131071, 11⟩ : S92), (⟨262142, 1114111, 11⟩ : S92)] : List (S92))) := ⟨_, rfl⟩
 replace H : (some y109) = some r := by first | (rw [hy109]; with_reducible exact H) | (have H2_ := (Option.bind_some _ _).symm.trans H; rw [hy109]; with_reducible exact H2_) | (have H2_ := (Option.bind_some _ _).symm.trans H; with_reducible exact H2_) | with_reducible exact H | (rw [hy109]; exact H) | exact H
 have Ny109 := Aside0.mk hy109
 clear hy109
 obtain rfl := Option.some.inj H
 go_enter Try.func60, Try.ntmps60
 go_wp2_with (first | ((with_reducible refine gate_dst (N := 40) rfl ?_); refine Kd.R_lit k92 _ 92 ?hg (N := 40) ?hd (xs := ([(⟨0, 31, 4⟩ : S92), (⟨127, 127, 5⟩ : S92), (⟨128, 159, 6⟩ : S92), (⟨160, 160, 10⟩ : S92), (⟨5760, 5760, 10⟩ : S92), (⟨8192, 8202, 10⟩ : S92), (⟨8232, 8233, 10⟩ : S92), (⟨8239, 8239, 10⟩ : S92), (⟨8287, 8287, 10⟩ : S92), (⟨12288, 12288, 10⟩ : S92), (⟨173, 173, 8⟩ : S92), (⟨6155, 6158, 8⟩ : S92), (⟨8203, 8205, 8⟩ : S92), (⟨8288, 8292, 8⟩ : S92), (⟨65279, 65279, 8⟩ : S92), (⟨65529, 65531, 8⟩ : S92), (⟨1564, 1564, 7⟩ : S92), (⟨8206, 8207, 7⟩ : S92), (⟨8234, 8238, 7⟩ : S92), (⟨8294, 8297, 7⟩ : S92), (⟨768, 879, 9⟩ : S92), (⟨1155, 1161, 9⟩ : S92), (⟨1425, 1469, 9⟩ : S92), (⟨1552, 1562, 9⟩ : S92), (⟨1611, 1631, 9⟩ : S92), (⟨1750, 1756, 9⟩ : S92), (⟨6832, 6862, 9⟩ : S92), (⟨7616, 7679, 9⟩ : S92), (⟨8400, 8432, 9⟩ : S92), (⟨12330, 12335, 9⟩ : S92), (⟨12441, 12442, 9⟩ : S92), (⟨65024, 65039, 9⟩ : S92), (⟨65056, 65071, 9⟩ : S92), (⟨57344, 63743, 11⟩ : S92), (⟨64976, 65007, 11⟩ : S92), (⟨65520, 65528, 11⟩ : S92), (⟨65534, 65535, 11⟩ : S92), (⟨131070, 131071, 11⟩ : S92), (⟨262142, 1114111, 11⟩ : S92)] : List (S92))) (inner := [.int .i64 0, .int .i64 31, .int .i64 4, .int .i64 127, .int .i64 127, .int .i64 5, .int .i64 128, .int .i64 159, .int .i64 6, .int .i64 160, .int .i64 160, .int .i64 10, .int .i64 5760, .int .i64 5760, .int .i64 10, .int .i64 8192, .int .i64 8202, .int .i64 10, .int .i64 8232, .int .i64 8233, .int .i64 10, .int .i64 8239, .int .i64 8239, .int .i64 10, .int .i64 8287, .int .i64 8287, .int .i64 10, .int .i64 12288, .int .i64 12288, .int .i64 10, .int .i64 173, .int .i64 173, .int .i64 8, .int .i64 6155, .int .i64 6158, .int .i64 8, .int .i64 8203, .int .i64 8205, .int .i64 8, .int .i64 8288, .int .i64 8292, .int .i64 8, .int .i64 65279, .int .i64 65279, .int .i64 8, .int .i64 65529, .int .i64 65531, .int .i64 8, .int .i64 1564, .int .i64 1564, .int .i64 7, .int .i64 8206, .int .i64 8207, .int .i64 7, .int .i64 8234, .int .i64 8238, .int .i64 7, .int .i64 8294, .int .i64 8297, .int .i64 7, .int .i64 768, .int .i64 879, .int .i64 9, .int .i64 1155, .int .i64 1161, .int .i64 9, .int .i64 1425, .int .i64 1469, .int .i64 9, .int .i64 1552, .int .i64 1562, .int .i64 9, .int .i64 1611, .int .i64 1631, .int .i64 9, .int .i64 1750, .int .i64 1756, .int .i64 9, .int .i64 6832, .int .i64 6862, .int .i64 9, .int .i64 7616, .int .i64 7679, .int .i64 9, .int .i64 8400, .int .i64 8432, .int .i64 9, .int .i64 12330, .int .i64 12335, .int .i64 9, .int .i64 12441, .int .i64 12442, .int .i64 9, .int .i64 65024, .int .i64 65039, .int .i64 9, .int .i64 65056, .int .i64 65071, .int .i64 9, .int .i64 57344, .int .i64 63743, .int .i64 11, .int .i64 64976, .int .i64 65007, .int .i64 11, .int .i64 65520, .int .i64 65528, .int .i64 11, .int .i64 65534, .int .i64 65535, .int .i64 11, .int .i64 131070, .int .i64 131071, .int .i64 11, .int .i64 262142, .int .i64 1114111, .int .i64 11]) (ok := fun _ => True) (okp := fun _ => True) ?hr ?hp (fun _ hk => hk) trivial (Below.refl _ _) (Nat.le_refl _) (by simp) ?_; (case hd => rfl); (case hg => rfl); (case hr => first | (go_simp; done) | (go_simp; rfl)); (case hp => exact (Reps.c3 (show Kd.M k92 _ _ _ (⟨0, 31, 4⟩ : S92) [.int .i64 0, .int .i64 31, .int .i64 4] from (k92_mkM _ _ _ (⟨0, 31, 4⟩ : S92) )) (Reps.c3 (show Kd.M k92 _ _ _ (⟨127, 127, 5⟩ : S92) [.int .i64 127, .int .i64 127, .int .i64 5] from (k92_mkM _ _ _ (⟨127, 127, 5⟩ : S92) )) (Reps.c3 (show Kd.M k92 _ _ _ (⟨128, 159, 6⟩ : S92) [.int .i64 128, .int .i64 159, .int .i64 6] from (k92_mkM _ _ _ (⟨128, 159, 6⟩ : S92) )) (Reps.c3 (show Kd.M k92 _ _ _ (⟨160, 160, 10⟩ : S92) [.int .i64 160, .int .i64 160, .int .i64 10] from (k92_mkM _ _ _ (⟨160, 160, 10⟩ : S92) )) (Reps.c3 (show Kd.M k92 _ _ _ (⟨5760, 5760, 10⟩ : S92) [.int .i64 5760, .int .i64 5760, .int .i64 10] from (k92_mkM _ _ _ (⟨5760, 5760, 10⟩ : S92) )) (Reps.c3 (show Kd.M k92 _ _ _ (⟨8192, 8202, 10⟩ : S92) [.int .i64 8192, .int .i64 8202, .int .i64 10] from (k92_mkM _ _ _ (⟨8192, 8202, 10⟩ : S92) )) (Reps.c3 (show Kd.M k92 _ _ _ (⟨8232, 8233, 10⟩ : S92) [.int .i64 8232, .int .i64 8233, .int .i64 10] from (k92_mkM _ _ _ (⟨8232, 8233, 10⟩ : S92) )) (Reps.c3 (show Kd.M k92 _ _ _ (⟨8239, 8239, 10⟩ : S92) [.int .i64 8239, .int .i64 8239, .int .i64 10] from (k92_mkM _ _ _ (⟨8239, 8239, 10⟩ : S92) )) (Reps.c3 (show Kd.M k92 _ _ _ (⟨8287, 8287, 10⟩ : S92) [.int .i64 8287, .int .i64 8287, .int .i64 10] from (k92_mkM _ _ _ (⟨8287, 8287, 10⟩ : S92) )) (Reps.c3 (show Kd.M k92 _ _ _ (⟨12288, 12288, 10⟩ : S92) [.int .i64 12288, .int .i64 12288, .int .i64 10] from (k92_mkM _ _ _ (⟨12288, 12288, 10⟩ : S92) )) (Reps.c3 (show Kd.M k92 _ _ _ (⟨173, 173, 8⟩ : S92) [.int .i64 173, .int .i64 173, .int .i64 8] from (k92_mkM _ _ _ (⟨173, 173, 8⟩ : S92) )) (Reps.c3 (show Kd.M k92 _ _ _ (⟨6155, 6158, 8⟩ : S92) [.int .i64 6155, .int .i64 6158, .int .i64 8] from (k92_mkM _ _ _ (⟨6155, 6158, 8⟩ : S92) )) (Reps.c3 (show Kd.M k92 _ _ _ (⟨8203, 8205, 8⟩ : S92) [.int .i64 8203, .int .i64 8205, .int .i64 8] from (k92_mkM _ _ _ (⟨8203, 8205, 8⟩ : S92) )) (Reps.c3 (show Kd.M k92 _ _ _ (⟨8288, 8292, 8⟩ : S92) [.int .i64 8288, .int .i64 8292, .int .i64 8] from (k92_mkM _ _ _ (⟨8288, 8292, 8⟩ : S92) )) (Reps.c3 (show Kd.M k92 _ _ _ (⟨65279, 65279, 8⟩ : S92) [.int .i64 65279, .int .i64 65279, .int .i64 8] from (k92_mkM _ _ _ (⟨65279, 65279, 8⟩ : S92) )) (Reps.c3 (show Kd.M k92 _ _ _ (⟨65529, 65531, 8⟩ : S92) [.int .i64 65529, .int .i64 65531, .int .i64 8] from (k92_mkM _ _ _ (⟨65529, 65531, 8⟩ : S92) )) (Reps.c3 (show Kd.M k92 _ _ _ (⟨1564, 1564, 7⟩ : S92) [.int .i64 1564, .int .i64 1564, .int .i64 7] from (k92_mkM _ _ _ (⟨1564, 1564, 7⟩ : S92) )) (Reps.c3 (show Kd.M k92 _ _ _ (⟨8206, 8207, 7⟩ : S92) [.int .i64 8206, .int .i64 8207, .int .i64 7] from (k92_mkM _ _ _ (⟨8206, 8207, 7⟩ : S92) )) (Reps.c3 (show Kd.M k92 _ _ _ (⟨8234, 8238, 7⟩ : S92) [.int .i64 8234, .int .i64 8238, .int .i64 7] from (k92_mkM _ _ _ (⟨8234, 8238, 7⟩ : S92) )) (Reps.c3 (show Kd.M k92 _ _ _ (⟨8294, 8297, 7⟩ : S92) [.int .i64 8294, .int .i64 8297, .int .i64 7] from (k92_mkM _ _ _ (⟨8294, 8297, 7⟩ : S92) )) (Reps.c3 (show Kd.M k92 _ _ _ (⟨768, 879, 9⟩ : S92) [.int .i64 768, .int .i64 879, .int .i64 9] from (k92_mkM _ _ _ (⟨768, 879, 9⟩ : S92) )) (Reps.c3 (show Kd.M k92 _ _ _ (⟨1155, 1161, 9⟩ : S92) [.int .i64 1155, .int .i64 1161, .int .i64 9] from (k92_mkM _ _ _ (⟨1155, 1161, 9⟩ : S92) )) (Reps.c3 (show Kd.M k92 _ _ _ (⟨1425, 1469, 9⟩ : S92) [.int .i64 1425, .int .i64 1469, .int .i64 9] from (k92_mkM _ _ _ (⟨1425, 1469, 9⟩ : S92) )) (Reps.c3 (show Kd.M k92 _ _ _ (⟨1552, 1562, 9⟩ : S92) [.int .i64 1552, .int .i64 1562, .int .i64 9] from (k92_mkM _ _ _ (⟨1552, 1562, 9⟩ : S92) )) (Reps.c3 (show Kd.M k92 _ _ _ (⟨1611, 1631, 9⟩ : S92) [.int .i64 1611, .int .i64 1631, .int .i64 9] from (k92_mkM _ _ _ (⟨1611, 1631, 9⟩ : S92) )) (Reps.c3 (show Kd.M k92 _ _ _ (⟨1750, 1756, 9⟩ : S92) [.int .i64 1750, .int .i64 1756, .int .i64 9] from (k92_mkM _ _ _ (⟨1750, 1756, 9⟩ : S92) )) (Reps.c3 (show Kd.M k92 _ _ _ (⟨6832, 6862, 9⟩ : S92) [.int .i64 6832, .int .i64 6862, .int .i64 9] from (k92_mkM _ _ _ (⟨6832, 6862, 9⟩ : S92) )) (Reps.c3 (show Kd.M k92 _ _ _ (⟨7616, 7679, 9⟩ : S92) [.int .i64 7616, .int .i64 7679, .int .i64 9] from (k92_mkM _ _ _ (⟨7616, 7679, 9⟩ : S92) )) (Reps.c3 (show Kd.M k92 _ _ _ (⟨8400, 8432, 9⟩ : S92) [.int .i64 8400, .int .i64 8432, .int .i64 9] from (k92_mkM _ _ _ (⟨8400, 8432, 9⟩ : S92) )) (Reps.c3 (show Kd.M k92 _ _ _ (⟨12330, 12335, 9⟩ : S92) [.int .i64 12330, .int .i64 12335, .int .i64 9] from (k92_mkM _ _ _ (⟨12330, 12335, 9⟩ : S92) )) (Reps.c3 (show Kd.M k92 _ _ _ (⟨12441, 12442, 9⟩ : S92) [.int .i64 12441, .int .i64 12442, .int .i64 9] from (k92_mkM _ _ _ (⟨12441, 12442, 9⟩ : S92) )) (Reps.c3 (show Kd.M k92 _ _ _ (⟨65024, 65039, 9⟩ : S92) [.int .i64 65024, .int .i64 65039, .int .i64 9] from (k92_mkM _ _ _ (⟨65024, 65039, 9⟩ : S92) )) (Reps.c3 (show Kd.M k92 _ _ _ (⟨65056, 65071, 9⟩ : S92) [.int .i64 65056, .int .i64 65071, .int .i64 9] from (k92_mkM _ _ _ (⟨65056, 65071, 9⟩ : S92) )) (Reps.c3 (show Kd.M k92 _ _ _ (⟨57344, 63743, 11⟩ : S92) [.int .i64 57344, .int .i64 63743, .int .i64 11] from (k92_mkM _ _ _ (⟨57344, 63743, 11⟩ : S92) )) (Reps.c3 (show Kd.M k92 _ _ _ (⟨64976, 65007, 11⟩ : S92) [.int .i64 64976, .int .i64 65007, .int .i64 11] from (k92_mkM _ _ _ (⟨64976, 65007, 11⟩ : S92) )) (Reps.c3 (show Kd.M k92 _ _ _ (⟨65520, 65528, 11⟩ : S92) [.int .i64 65520, .int .i64 65528, .int .i64 11] from (k92_mkM _ _ _ (⟨65520, 65528, 11⟩ : S92) )) (Reps.c3 (show Kd.M k92 _ _ _ (⟨65534, 65535, 11⟩ : S92) [.int .i64 65534, .int .i64 65535, .int .i64 11] from (k92_mkM _ _ _ (⟨65534, 65535, 11⟩ : S92) )) (Reps.c3 (show Kd.M k92 _ _ _ (⟨131070, 131071, 11⟩ : S92) [.int .i64 131070, .int .i64 131071, .int .i64 11] from (k92_mkM _ _ _ (⟨131070, 131071, 11⟩ : S92) )) (Reps.c3 (show Kd.M k92 _ _ _ (⟨262142, 1114111, 11⟩ : S92) [.int .i64 262142, .int .i64 1114111, .int .i64 11] from (k92_mkM _ _ _ (⟨262142, 1114111, 11⟩ : S92) )) (Reps.none _ _))))))))))))))))))))))))))))))))))))))))); intro v110 w1 ho2 hb hg_ hnew_; clear hg_ hnew_; (first | rw [← Ny109.out] at ho2 | (simp only [Int.reduceToNat] at ho2; rw [← Ny109.out] at ho2)); have n0_ := Aside0.mk (Kd.R_lower ho2 (below_size zb)); have n1_ := Aside0.mk (below_step zb hb); clear HB; have HO111 := n0_; have HB := n1_; clear n0_ n1_; clear hb ho2))
 go_ret
 exact ⟨_, zr, by (with_reducible repeat (first | apply Kd.R_alloc | apply Kd.R_drewN | apply Kd.R_drew)); exact HO111.out, by repeat (first | (with_reducible first | exact HB.out | apply below_alloc | apply pw_below_drewN | apply below_drew1) | exact HB.out)⟩

/-! ### class_wides: function 61 -/
def class_wides.f  : Option ((List (S92))) := some (([(⟨4352, 4447, 2⟩ : S92), (⟨8986, 8987, 2⟩ : S92), (⟨11904, 12287, 2⟩ : S92), (⟨12289, 12350, 2⟩ : S92), (⟨12353, 13311, 2⟩ : S92), (⟨13312, 19903, 2⟩ : S92), (⟨19968, 42191, 2⟩ : S92), (⟨43360, 43391, 2⟩ : S92), (⟨44032, 55203, 2⟩ : S92), (⟨63744, 64255, 2⟩ : S92), (⟨65072, 65135, 2⟩ : S92), (⟨65280, 65376, 2⟩ : S92), (⟨65504, 65510, 2⟩ : S92), (⟨127744, 128591, 2⟩ : S92), (⟨128640, 128767, 2⟩ : S92), (⟨129280, 129535, 2⟩ : S92), (⟨131072, 262141, 2⟩ : S92)] : List (S92)))
set_option maxHeartbeats 8000000 in
set_option maxRecDepth 100000 in
theorem class_wides.calls  (r : List (S92)) (w : World) (h : class_wides.f  = some r) :
  Calls Try.prog 61 #[] w fun e w' => ∃ v0_ : Value, e = .returned (v0_) ∧ Kd.R k92 92 w' w.heap.size (fun _ => True) v0_ r ∧ Below w.heap.size w w' := by
 have hu92 := Try.underlying92
 have HB := Aside0.mk (Below.refl w.heap.size w)
 have H : (some (([(⟨4352, 4447, 2⟩ : S92), (⟨8986, 8987, 2⟩ : S92), (⟨11904, 12287, 2⟩ : S92), (⟨12289, 12350, 2⟩ : S92), (⟨12353, 13311, 2⟩ : S92), (⟨13312, 19903, 2⟩ : S92), (⟨19968, 42191, 2⟩ : S92), (⟨43360, 43391, 2⟩ : S92), (⟨44032, 55203, 2⟩ : S92), (⟨63744, 64255, 2⟩ : S92), (⟨65072, 65135, 2⟩ : S92), (⟨65280, 65376, 2⟩ : S92), (⟨65504, 65510, 2⟩ : S92), (⟨127744, 128591, 2⟩ : S92), (⟨128640, 128767, 2⟩ : S92), (⟨129280, 129535, 2⟩ : S92), (⟨131072, 262141, 2⟩ : S92)] : List (S92)))) = some r := h
 clear h
 obtain ⟨y112, hy112⟩ : ∃ y_ : List (S92), y_ = (([(⟨4352, 4447, 2⟩ : S92), (⟨8986, 8987, 2⟩ : S92), (⟨11904, 12287, 2⟩ : S92), (⟨12289, 12350, 2⟩ : S92), (⟨12353, 13311, 2⟩ : S92), (⟨13312, 19903, 2⟩ : S92), (⟨19968, 42191, 2⟩ : S92), (⟨43360, 43391, 2⟩ : S92), (⟨44032, 55203, 2⟩ : S92), (⟨63744, 64255, 2⟩ : S92), (⟨65072, 65135, 2⟩ : S92), (⟨65280, 65376, 2⟩ : S92), (⟨65504, 65510, 2⟩ : S92), (⟨127744, 128591, 2⟩ : S92), (⟨128640, 128767, 2⟩ : S92), (⟨129280, 129535, 2⟩ : S92), (⟨131072, 262141, 2⟩ : S92)] : List (S92))) := ⟨_, rfl⟩
 replace H : (some y112) = some r := by first | (rw [hy112]; with_reducible exact H) | (have H2_ := (Option.bind_some _ _).symm.trans H; rw [hy112]; with_reducible exact H2_) | (have H2_ := (Option.bind_some _ _).symm.trans H; with_reducible exact H2_) | with_reducible exact H | (rw [hy112]; exact H) | exact H
 have Ny112 := Aside0.mk hy112
 clear hy112
 obtain rfl := Option.some.inj H
 go_enter Try.func61, Try.ntmps61
 go_wp2_with (first | ((with_reducible refine gate_dst (N := 18) rfl ?_); refine Kd.R_lit k92 _ 92 ?hg (N := 18) ?hd (xs := ([(⟨4352, 4447, 2⟩ : S92), (⟨8986, 8987, 2⟩ : S92), (⟨11904, 12287, 2⟩ : S92), (⟨12289, 12350, 2⟩ : S92), (⟨12353, 13311, 2⟩ : S92), (⟨13312, 19903, 2⟩ : S92), (⟨19968, 42191, 2⟩ : S92), (⟨43360, 43391, 2⟩ : S92), (⟨44032, 55203, 2⟩ : S92), (⟨63744, 64255, 2⟩ : S92), (⟨65072, 65135, 2⟩ : S92), (⟨65280, 65376, 2⟩ : S92), (⟨65504, 65510, 2⟩ : S92), (⟨127744, 128591, 2⟩ : S92), (⟨128640, 128767, 2⟩ : S92), (⟨129280, 129535, 2⟩ : S92), (⟨131072, 262141, 2⟩ : S92)] : List (S92))) (inner := [.int .i64 4352, .int .i64 4447, .int .i64 2, .int .i64 8986, .int .i64 8987, .int .i64 2, .int .i64 11904, .int .i64 12287, .int .i64 2, .int .i64 12289, .int .i64 12350, .int .i64 2, .int .i64 12353, .int .i64 13311, .int .i64 2, .int .i64 13312, .int .i64 19903, .int .i64 2, .int .i64 19968, .int .i64 42191, .int .i64 2, .int .i64 43360, .int .i64 43391, .int .i64 2, .int .i64 44032, .int .i64 55203, .int .i64 2, .int .i64 63744, .int .i64 64255, .int .i64 2, .int .i64 65072, .int .i64 65135, .int .i64 2, .int .i64 65280, .int .i64 65376, .int .i64 2, .int .i64 65504, .int .i64 65510, .int .i64 2, .int .i64 127744, .int .i64 128591, .int .i64 2, .int .i64 128640, .int .i64 128767, .int .i64 2, .int .i64 129280, .int .i64 129535, .int .i64 2, .int .i64 131072, .int .i64 262141, .int .i64 2]) (ok := fun _ => True) (okp := fun _ => True) ?hr ?hp (fun _ hk => hk) trivial (Below.refl _ _) (Nat.le_refl _) (by simp) ?_; (case hd => rfl); (case hg => rfl); (case hr => first | (go_simp; done) | (go_simp; rfl)); (case hp => exact (Reps.c3 (show Kd.M k92 _ _ _ (⟨4352, 4447, 2⟩ : S92) [.int .i64 4352, .int .i64 4447, .int .i64 2] from (k92_mkM _ _ _ (⟨4352, 4447, 2⟩ : S92) )) (Reps.c3 (show Kd.M k92 _ _ _ (⟨8986, 8987, 2⟩ : S92) [.int .i64 8986, .int .i64 8987, .int .i64 2] from (k92_mkM _ _ _ (⟨8986, 8987, 2⟩ : S92) )) (Reps.c3 (show Kd.M k92 _ _ _ (⟨11904, 12287, 2⟩ : S92) [.int .i64 11904, .int .i64 12287, .int .i64 2] from (k92_mkM _ _ _ (⟨11904, 12287, 2⟩ : S92) )) (Reps.c3 (show Kd.M k92 _ _ _ (⟨12289, 12350, 2⟩ : S92) [.int .i64 12289, .int .i64 12350, .int .i64 2] from (k92_mkM _ _ _ (⟨12289, 12350, 2⟩ : S92) )) (Reps.c3 (show Kd.M k92 _ _ _ (⟨12353, 13311, 2⟩ : S92) [.int .i64 12353, .int .i64 13311, .int .i64 2] from (k92_mkM _ _ _ (⟨12353, 13311, 2⟩ : S92) )) (Reps.c3 (show Kd.M k92 _ _ _ (⟨13312, 19903, 2⟩ : S92) [.int .i64 13312, .int .i64 19903, .int .i64 2] from (k92_mkM _ _ _ (⟨13312, 19903, 2⟩ : S92) )) (Reps.c3 (show Kd.M k92 _ _ _ (⟨19968, 42191, 2⟩ : S92) [.int .i64 19968, .int .i64 42191, .int .i64 2] from (k92_mkM _ _ _ (⟨19968, 42191, 2⟩ : S92) )) (Reps.c3 (show Kd.M k92 _ _ _ (⟨43360, 43391, 2⟩ : S92) [.int .i64 43360, .int .i64 43391, .int .i64 2] from (k92_mkM _ _ _ (⟨43360, 43391, 2⟩ : S92) )) (Reps.c3 (show Kd.M k92 _ _ _ (⟨44032, 55203, 2⟩ : S92) [.int .i64 44032, .int .i64 55203, .int .i64 2] from (k92_mkM _ _ _ (⟨44032, 55203, 2⟩ : S92) )) (Reps.c3 (show Kd.M k92 _ _ _ (⟨63744, 64255, 2⟩ : S92) [.int .i64 63744, .int .i64 64255, .int .i64 2] from (k92_mkM _ _ _ (⟨63744, 64255, 2⟩ : S92) )) (Reps.c3 (show Kd.M k92 _ _ _ (⟨65072, 65135, 2⟩ : S92) [.int .i64 65072, .int .i64 65135, .int .i64 2] from (k92_mkM _ _ _ (⟨65072, 65135, 2⟩ : S92) )) (Reps.c3 (show Kd.M k92 _ _ _ (⟨65280, 65376, 2⟩ : S92) [.int .i64 65280, .int .i64 65376, .int .i64 2] from (k92_mkM _ _ _ (⟨65280, 65376, 2⟩ : S92) )) (Reps.c3 (show Kd.M k92 _ _ _ (⟨65504, 65510, 2⟩ : S92) [.int .i64 65504, .int .i64 65510, .int .i64 2] from (k92_mkM _ _ _ (⟨65504, 65510, 2⟩ : S92) )) (Reps.c3 (show Kd.M k92 _ _ _ (⟨127744, 128591, 2⟩ : S92) [.int .i64 127744, .int .i64 128591, .int .i64 2] from (k92_mkM _ _ _ (⟨127744, 128591, 2⟩ : S92) )) (Reps.c3 (show Kd.M k92 _ _ _ (⟨128640, 128767, 2⟩ : S92) [.int .i64 128640, .int .i64 128767, .int .i64 2] from (k92_mkM _ _ _ (⟨128640, 128767, 2⟩ : S92) )) (Reps.c3 (show Kd.M k92 _ _ _ (⟨129280, 129535, 2⟩ : S92) [.int .i64 129280, .int .i64 129535, .int .i64 2] from (k92_mkM _ _ _ (⟨129280, 129535, 2⟩ : S92) )) (Reps.c3 (show Kd.M k92 _ _ _ (⟨131072, 262141, 2⟩ : S92) [.int .i64 131072, .int .i64 262141, .int .i64 2] from (k92_mkM _ _ _ (⟨131072, 262141, 2⟩ : S92) )) (Reps.none _ _))))))))))))))))))); intro v113 w1 ho2 hb hg_ hnew_; clear hg_ hnew_; (first | rw [← Ny112.out] at ho2 | (simp only [Int.reduceToNat] at ho2; rw [← Ny112.out] at ho2)); have n0_ := Aside0.mk (Kd.R_lower ho2 (below_size zb)); have n1_ := Aside0.mk (below_step zb hb); clear HB; have HO114 := n0_; have HB := n1_; clear n0_ n1_; clear hb ho2))
 go_ret
 exact ⟨_, zr, by (with_reducible repeat (first | apply Kd.R_alloc | apply Kd.R_drewN | apply Kd.R_drew)); exact HO114.out, by repeat (first | (with_reducible first | exact HB.out | apply below_alloc | apply pw_below_drewN | apply below_drew1) | exact HB.out)⟩

/-! ### class_Of: function 44 -/
def class_Of.j0 : Nat → Int → Option (Int)
 | 0, _ => none
 | k + 1, x0 => (class_spans.f).bind fun t116 => ((class_in.f x0 t116).bind fun t119 => (if t119 = 0 then ((class_Skeleton.f x0).bind fun t120 => (if t120 = x0 then ((class_wides.f).bind fun t121 => ((class_in.f x0 t121).bind fun t124 => (if t124 = 0 then (some 1) else (some t124)))) else (some 3))) else (some t119)))
def class_Of.f (k : Nat) (a0 : Int) : Option (Int) := (utf_Right.f a0).bind fun t115 => (if t115 = true then (if a0 > 1114111 then (some 12) else (if a0 > 31 then (if a0 < 127 then (some 1) else (class_Of.j0 k a0)) else (class_Of.j0 k a0))) else (some 0))
theorem class_Of.mono_l : ∀ k, (∀ y0, LeO (class_Of.j0 k y0) (class_Of.j0 (k + 1) y0))
 | 0 => fun _ r h => by simp [class_Of.j0] at h
 | k + 1 => by
  have ih0 := class_Of.mono_l k
  ·intro y0
   unfold class_Of.j0
   repeat' first
   | (with_reducible exact ih0 _)
   | (with_reducible exact LeO.refl _)
   | (with_reducible exact LeO.none _)
   | (with_reducible refine LeO.ite ?_ ?_)
   | (with_reducible refine LeO.bind ?_ (fun _ => ?_))
   | exact ih0 _
   | exact LeO.none _
   | refine LeO.ite ?_ ?_
   | refine LeO.bind ?_ (fun _ => ?_)
theorem class_Of.mono : ∀ a0 k, LeO (class_Of.f k a0) (class_Of.f (k + 1) a0) := by
 intro a0 k
 have ih0 := class_Of.mono_l k
 unfold class_Of.f
 repeat' first
   | (with_reducible exact ih0 _)
   | (with_reducible exact LeO.refl _)
   | (with_reducible exact LeO.none _)
   | (with_reducible refine LeO.ite ?_ ?_)
   | (with_reducible refine LeO.bind ?_ (fun _ => ?_))
   | exact ih0 _
   | exact LeO.none _
   | refine LeO.ite ?_ ?_
   | refine LeO.bind ?_ (fun _ => ?_)
set_option maxHeartbeats 8000000 in
set_option maxRecDepth 100000 in
theorem class_Of.calls (k : Nat) (a0 : Int) (r : Int) (w : World) (h : class_Of.f k a0 = some r) :
  Calls Try.prog 44 #[.int .i64 a0] w fun e w' => e = .returned (.int .i64 r) ∧ Below w.heap.size w w' := by
 have HB := Aside0.mk (Below.refl w.heap.size w)
 have H : ((utf_Right.f a0).bind fun t115 => (if t115 = true then (if a0 > 1114111 then (some 12) else (if a0 > 31 then (if a0 < 127 then (some 1) else (class_Of.j0 k a0)) else (class_Of.j0 k a0))) else (some 0))) = some r := h
 clear h
 have HC2 := Aside0.mk H
 clear H
 go_enter Try.func44, Try.ntmps44
 go_upto_block 0 with (fail)
 go_cut [] (fun wc => ∃ (kq : Nat), Aside0 (class_Of.j0 kq a0 = some r) ∧ Aside0 (kq ≤ k) ∧ Aside0 (Below w.heap.size w wc))
 case first =>
  have H := HC2.out
  clear HC2
  replace H := Option.bind_eq_some_iff.mp H
  obtain ⟨t115, A30, H⟩ := H
  replace H : (if t115 = true then (if a0 > 1114111 then (some 12) else (if a0 > 31 then (if a0 < 127 then (some 1) else (class_Of.j0 k a0)) else (class_Of.j0 k a0))) else (some 0)) = some r := H
  have A3 := Aside0.mk A30
  clear A30
  by_cases c4 : t115 = true
  ·subst c4
   have H1 : (if a0 > 1114111 then (some 12) else (if a0 > 31 then (if a0 < 127 then (some 1) else (class_Of.j0 k a0)) else (class_Of.j0 k a0))) = some r := by rw [if_pos rfl] at H; exact H
   clear H
   have H := H1
   clear H1
   by_cases c5 : a0 > 1114111
   ·rw [if_pos c5] at H
    have c5b0 : decide (1114111 < a0) = true := decide_eq_true c5
    clear c5
    (first | rw [c5b0] | (simp only [i64_w, i32_w]; rw [c5b0]) | skip)
    obtain rfl := Option.some.inj H
    go_wp2_with (first | ((with_reducible refine gate_callee (f := 47) rfl ?_); refine goesL_ (some 7) rfl rfl Try.func47 (by kernel_rfl) rfl #[.int .i64 a0] rfl zl ?_; (with_reducible refine (utf_Right.calls a0 true _ A3.out).mono ?_); rintro e w' ⟨rfl, ⟨nd, rfl⟩⟩; refine ⟨_, rfl, ?_⟩))
    go_ret
    exact ⟨zr, zb⟩
   ·rw [if_neg c5] at H
    have c5b0 : decide (1114111 < a0) = false := decide_eq_false c5
    clear c5
    (first | rw [c5b0] | (simp only [i64_w, i32_w]; rw [c5b0]) | skip)
    by_cases c6 : a0 > 31
    ·rw [if_pos c6] at H
     have c6b0 : decide (31 < a0) = true := decide_eq_true c6
     clear c6
     by_cases c7 : a0 < 127
     ·rw [if_pos c7] at H
      have c7b0 : decide (a0 < 127) = true := decide_eq_true c7
      clear c7
      obtain rfl := Option.some.inj H
      go_wp2_with (first | ((with_reducible refine gate_callee (f := 47) rfl ?_); refine goesL_ (some 7) rfl rfl Try.func47 (by kernel_rfl) rfl #[.int .i64 a0] rfl zl ?_; (with_reducible refine (utf_Right.calls a0 true _ A3.out).mono ?_); rintro e w' ⟨rfl, ⟨nd, rfl⟩⟩; refine ⟨_, rfl, ?_⟩))
      go_ret
      exact ⟨zr, zb⟩
     ·rw [if_neg c7] at H
      have c7b0 : decide (a0 < 127) = false := decide_eq_false c7
      clear c7
      have H' := Aside0.mk H
      clear H
      go_wp2_with (first | ((with_reducible refine gate_callee (f := 47) rfl ?_); refine goesL_ (some 7) rfl rfl Try.func47 (by kernel_rfl) rfl #[.int .i64 a0] rfl zl ?_; (with_reducible refine (utf_Right.calls a0 true _ A3.out).mono ?_); rintro e w' ⟨rfl, ⟨nd, rfl⟩⟩; refine ⟨_, rfl, ?_⟩))
      go_meet
      case rel => exact ⟨_, H', ⟨by first | omega | exact Nat.le_refl _⟩, ⟨by repeat (first | (with_reducible first | exact HB.out | apply below_alloc | apply pw_below_drewN | apply below_drew1) | exact HB.out)⟩⟩
    ·rw [if_neg c6] at H
     have c6b0 : decide (31 < a0) = false := decide_eq_false c6
     clear c6
     have H' := Aside0.mk H
     clear H
     go_wp2_with (first | ((with_reducible refine gate_callee (f := 47) rfl ?_); refine goesL_ (some 7) rfl rfl Try.func47 (by kernel_rfl) rfl #[.int .i64 a0] rfl zl ?_; (with_reducible refine (utf_Right.calls a0 true _ A3.out).mono ?_); rintro e w' ⟨rfl, ⟨nd, rfl⟩⟩; refine ⟨_, rfl, ?_⟩))
     go_meet
     case rel => exact ⟨_, H', ⟨by first | omega | exact Nat.le_refl _⟩, ⟨by repeat (first | (with_reducible first | exact HB.out | apply below_alloc | apply pw_below_drewN | apply below_drew1) | exact HB.out)⟩⟩
  ·replace c4 := Bool.eq_false_iff.mpr c4
   subst c4
   have H1 : (some 0) = some r := by rw [if_neg (show ¬ (false = true) by decide)] at H; exact H
   clear H
   have H := H1
   clear H1
   obtain rfl := Option.some.inj H
   go_wp2_with (first | ((with_reducible refine gate_callee (f := 47) rfl ?_); refine goesL_ (some 7) rfl rfl Try.func47 (by kernel_rfl) rfl #[.int .i64 a0] rfl zl ?_; (with_reducible refine (utf_Right.calls a0 false _ A3.out).mono ?_); rintro e w' ⟨rfl, ⟨nd, rfl⟩⟩; refine ⟨_, rfl, ?_⟩))
   go_ret
   exact ⟨zr, zb⟩
 case rest =>
  clear HC2
  try clear p2
  try clear c4
  try clear c5
  try clear c5b0
  try clear c6
  try clear c6b0
  try clear c7
  try clear c7b0
  obtain ⟨kq, HA, HJ1, HB⟩ := hcut
  cases kq with
  | zero => exact absurd HA.out (by simp [class_Of.j0])
  | succ kj1 =>
   have H := HA.out
   clear HA
   simp only [class_Of.j0] at H
   replace H := Option.bind_eq_some_iff.mp H
   obtain ⟨t116, A80, H⟩ := H
   replace H : ((class_in.f a0 t116).bind fun t119 => (if t119 = 0 then ((class_Skeleton.f a0).bind fun t120 => (if t120 = a0 then ((class_wides.f).bind fun t121 => ((class_in.f a0 t121).bind fun t124 => (if t124 = 0 then (some 1) else (some t124)))) else (some 3))) else (some t119))) = some r := H
   have A8 := Aside0.mk A80
   clear A80
   replace H := Option.bind_eq_some_iff.mp H
   obtain ⟨t119, A90, H⟩ := H
   replace H : (if t119 = 0 then ((class_Skeleton.f a0).bind fun t120 => (if t120 = a0 then ((class_wides.f).bind fun t121 => ((class_in.f a0 t121).bind fun t124 => (if t124 = 0 then (some 1) else (some t124)))) else (some 3))) else (some t119)) = some r := H
   have A9 := Aside0.mk A90
   clear A90
   by_cases c10 : t119 = 0
   ·rw [if_pos c10] at H
    have c10b0 : (t119 == 0) = true := beq_iff_eq.mpr c10
    have c10b1 : (t119 != 0) = false := bne_eq_false_iff_eq.mpr c10
    clear c10
    replace H := Option.bind_eq_some_iff.mp H
    obtain ⟨t120, A110, H⟩ := H
    replace H : (if t120 = a0 then ((class_wides.f).bind fun t121 => ((class_in.f a0 t121).bind fun t124 => (if t124 = 0 then (some 1) else (some t124)))) else (some 3)) = some r := H
    have A11 := Aside0.mk A110
    clear A110
    by_cases c12 : t120 = a0
    ·rw [if_pos c12] at H
     have c12b0 : (t120 == a0) = true := beq_iff_eq.mpr c12
     have c12b1 : (t120 != a0) = false := bne_eq_false_iff_eq.mpr c12
     clear c12
     replace H := Option.bind_eq_some_iff.mp H
     obtain ⟨t121, A130, H⟩ := H
     replace H : ((class_in.f a0 t121).bind fun t124 => (if t124 = 0 then (some 1) else (some t124))) = some r := H
     have A13 := Aside0.mk A130
     clear A130
     replace H := Option.bind_eq_some_iff.mp H
     obtain ⟨t124, A140, H⟩ := H
     replace H : (if t124 = 0 then (some 1) else (some t124)) = some r := H
     have A14 := Aside0.mk A140
     clear A140
     by_cases c15 : t124 = 0
     ·rw [if_pos c15] at H
      have c15b0 : (t124 == 0) = true := beq_iff_eq.mpr c15
      have c15b1 : (t124 != 0) = false := bne_eq_false_iff_eq.mpr c15
      clear c15
      obtain rfl := Option.some.inj H
      go_wp2_with (first | ((with_reducible refine gate_callee (f := 60) rfl ?_); refine goesL_ (some 20) rfl rfl Try.func60 (by kernel_rfl) rfl #[] rfl zl ?_; (with_reducible refine (class_spans.calls  t116 _ A8.out).mono ?_); rintro e w16 ⟨v117, rfl, ho0, hb⟩; refine ⟨_, rfl, ?_⟩; have n0_ := Aside0.mk (Kd.R_lower ho0 (below_size zb)); have n1_ := Aside0.mk (below_step zb hb); clear HB; have HO118 := n0_; have HB := n1_; clear n0_ n1_; (try clear hb); (try clear hb2); (try clear hk); (try clear hi); (try clear ho0); obtain ⟨Ao17, co17, eo17⟩ := Kd.R_slice HO118.out; subst eo17) | ((with_reducible refine gate_callee (f := 59) rfl ?_); refine goesL_ (some 21) rfl rfl Try.func59 (by kernel_rfl) rfl #[.int .i64 a0, .slice Ao17 t116.length co17] rfl zl ?_; (with_reducible refine (class_in.calls a0 _ _ t116 t119 _ ?side1 ?side2 A9.out).mono ?_); (case side1 => repeat (first | exact (Kd.R_reads' HO118.out).2.2 | (with_reducible refine Kd.C_alloc ?_ _) | (with_reducible refine Kd.C_drewN ?_ _) | (with_reducible refine Kd.C_drew ?_))); (case side2 => exact (Kd.R_reads' HO118.out).2.1); rintro e w18 ⟨rfl, hb⟩; refine ⟨_, rfl, ?_⟩; have n0_ := Aside0.mk (Kd.R_below (zk HO118.out) hb); have n1_ := Aside0.mk (below_step zb hb); clear HO118; clear HB; have HO118 := n0_; have HB := n1_; clear n0_ n1_; (try clear hb); (try clear hb2); (try clear hk); (try clear hi)) | ((with_reducible refine gate_callee (f := 27) rfl ?_); refine goesL_ (some 26) rfl rfl Try.func27 (by kernel_rfl) rfl #[.int .i64 a0] rfl zl ?_; (with_reducible refine (class_Skeleton.calls a0 t120 _ A11.out).mono ?_); rintro e w19 ⟨rfl, hb⟩; refine ⟨_, rfl, ?_⟩; have n0_ := Aside0.mk (Kd.R_below (zk HO118.out) hb); have n1_ := Aside0.mk (below_step zb hb); clear HO118; clear HB; have HO118 := n0_; have HB := n1_; clear n0_ n1_; (try clear hb); (try clear hb2); (try clear hk); (try clear hi)) | ((with_reducible refine gate_callee (f := 61) rfl ?_); refine goesL_ (some 30) rfl rfl Try.func61 (by kernel_rfl) rfl #[] rfl zl ?_; (with_reducible refine (class_wides.calls  t121 _ A13.out).mono ?_); rintro e w20 ⟨v122, rfl, ho0, hb⟩; refine ⟨_, rfl, ?_⟩; have n0_ := Aside0.mk (Kd.R_elder' (zk HO118.out) (Kd.R_base ho0) hb); have n1_ := Aside0.mk (Kd.R_lower (Kd.R_new' ho0 (Kd.R_lt (zk HO118.out))) (below_size zb)); have n2_ := Aside0.mk (below_step zb hb); clear HO118; clear HB; have HO118 := n0_; have HO123 := n1_; have HB := n2_; clear n0_ n1_ n2_; (try clear hb); (try clear hb2); (try clear hk); (try clear hi); (try clear ho0); obtain ⟨Ao21, co21, eo21⟩ := Kd.R_slice HO123.out; subst eo21) | ((with_reducible refine gate_callee (f := 59) rfl ?_); refine goesL_ (some 31) rfl rfl Try.func59 (by kernel_rfl) rfl #[.int .i64 a0, .slice Ao21 t121.length co21] rfl zl ?_; (with_reducible refine (class_in.calls a0 _ _ t121 t124 _ ?side1 ?side2 A14.out).mono ?_); (case side1 => repeat (first | exact (Kd.R_reads' HO123.out).2.2 | (with_reducible refine Kd.C_alloc ?_ _) | (with_reducible refine Kd.C_drewN ?_ _) | (with_reducible refine Kd.C_drew ?_))); (case side2 => exact (Kd.R_reads' HO123.out).2.1); rintro e w22 ⟨rfl, hb⟩; refine ⟨_, rfl, ?_⟩; have n0_ := Aside0.mk (Kd.R_below (zk HO118.out) hb); have n1_ := Aside0.mk (Kd.R_below (zk HO123.out) hb); have n2_ := Aside0.mk (below_step zb hb); clear HO118; clear HO123; clear HB; have HO118 := n0_; have HO123 := n1_; have HB := n2_; clear n0_ n1_ n2_; (try clear hb); (try clear hb2); (try clear hk); (try clear hi)))
      go_ret
      exact ⟨zr, zb⟩
     ·rw [if_neg c15] at H
      have c15b0 : (t124 == 0) = false := beq_eq_false_iff_ne.mpr c15
      have c15b1 : (t124 != 0) = true := bne_iff_ne.mpr c15
      obtain rfl := Option.some.inj H
      go_wp2_with (first | ((with_reducible refine gate_callee (f := 60) rfl ?_); refine goesL_ (some 20) rfl rfl Try.func60 (by kernel_rfl) rfl #[] rfl zl ?_; (with_reducible refine (class_spans.calls  t116 _ A8.out).mono ?_); rintro e w23 ⟨v117, rfl, ho0, hb⟩; refine ⟨_, rfl, ?_⟩; have n0_ := Aside0.mk (Kd.R_lower ho0 (below_size zb)); have n1_ := Aside0.mk (below_step zb hb); clear HB; have HO118 := n0_; have HB := n1_; clear n0_ n1_; (try clear hb); (try clear hb2); (try clear hk); (try clear hi); (try clear ho0); obtain ⟨Ao24, co24, eo24⟩ := Kd.R_slice HO118.out; subst eo24) | ((with_reducible refine gate_callee (f := 59) rfl ?_); refine goesL_ (some 21) rfl rfl Try.func59 (by kernel_rfl) rfl #[.int .i64 a0, .slice Ao24 t116.length co24] rfl zl ?_; (with_reducible refine (class_in.calls a0 _ _ t116 t119 _ ?side1 ?side2 A9.out).mono ?_); (case side1 => repeat (first | exact (Kd.R_reads' HO118.out).2.2 | (with_reducible refine Kd.C_alloc ?_ _) | (with_reducible refine Kd.C_drewN ?_ _) | (with_reducible refine Kd.C_drew ?_))); (case side2 => exact (Kd.R_reads' HO118.out).2.1); rintro e w25 ⟨rfl, hb⟩; refine ⟨_, rfl, ?_⟩; have n0_ := Aside0.mk (Kd.R_below (zk HO118.out) hb); have n1_ := Aside0.mk (below_step zb hb); clear HO118; clear HB; have HO118 := n0_; have HB := n1_; clear n0_ n1_; (try clear hb); (try clear hb2); (try clear hk); (try clear hi)) | ((with_reducible refine gate_callee (f := 27) rfl ?_); refine goesL_ (some 26) rfl rfl Try.func27 (by kernel_rfl) rfl #[.int .i64 a0] rfl zl ?_; (with_reducible refine (class_Skeleton.calls a0 t120 _ A11.out).mono ?_); rintro e w26 ⟨rfl, hb⟩; refine ⟨_, rfl, ?_⟩; have n0_ := Aside0.mk (Kd.R_below (zk HO118.out) hb); have n1_ := Aside0.mk (below_step zb hb); clear HO118; clear HB; have HO118 := n0_; have HB := n1_; clear n0_ n1_; (try clear hb); (try clear hb2); (try clear hk); (try clear hi)) | ((with_reducible refine gate_callee (f := 61) rfl ?_); refine goesL_ (some 30) rfl rfl Try.func61 (by kernel_rfl) rfl #[] rfl zl ?_; (with_reducible refine (class_wides.calls  t121 _ A13.out).mono ?_); rintro e w27 ⟨v122, rfl, ho0, hb⟩; refine ⟨_, rfl, ?_⟩; have n0_ := Aside0.mk (Kd.R_elder' (zk HO118.out) (Kd.R_base ho0) hb); have n1_ := Aside0.mk (Kd.R_lower (Kd.R_new' ho0 (Kd.R_lt (zk HO118.out))) (below_size zb)); have n2_ := Aside0.mk (below_step zb hb); clear HO118; clear HB; have HO118 := n0_; have HO123 := n1_; have HB := n2_; clear n0_ n1_ n2_; (try clear hb); (try clear hb2); (try clear hk); (try clear hi); (try clear ho0); obtain ⟨Ao28, co28, eo28⟩ := Kd.R_slice HO123.out; subst eo28) | ((with_reducible refine gate_callee (f := 59) rfl ?_); refine goesL_ (some 31) rfl rfl Try.func59 (by kernel_rfl) rfl #[.int .i64 a0, .slice Ao28 t121.length co28] rfl zl ?_; (with_reducible refine (class_in.calls a0 _ _ t121 t124 _ ?side1 ?side2 A14.out).mono ?_); (case side1 => repeat (first | exact (Kd.R_reads' HO123.out).2.2 | (with_reducible refine Kd.C_alloc ?_ _) | (with_reducible refine Kd.C_drewN ?_ _) | (with_reducible refine Kd.C_drew ?_))); (case side2 => exact (Kd.R_reads' HO123.out).2.1); rintro e w29 ⟨rfl, hb⟩; refine ⟨_, rfl, ?_⟩; have n0_ := Aside0.mk (Kd.R_below (zk HO118.out) hb); have n1_ := Aside0.mk (Kd.R_below (zk HO123.out) hb); have n2_ := Aside0.mk (below_step zb hb); clear HO118; clear HO123; clear HB; have HO118 := n0_; have HO123 := n1_; have HB := n2_; clear n0_ n1_ n2_; (try clear hb); (try clear hb2); (try clear hk); (try clear hi)))
      go_ret
      exact ⟨zr, zb⟩
    ·rw [if_neg c12] at H
     have c12b0 : (t120 == a0) = false := beq_eq_false_iff_ne.mpr c12
     have c12b1 : (t120 != a0) = true := bne_iff_ne.mpr c12
     obtain rfl := Option.some.inj H
     go_wp2_with (first | ((with_reducible refine gate_callee (f := 60) rfl ?_); refine goesL_ (some 20) rfl rfl Try.func60 (by kernel_rfl) rfl #[] rfl zl ?_; (with_reducible refine (class_spans.calls  t116 _ A8.out).mono ?_); rintro e w30 ⟨v117, rfl, ho0, hb⟩; refine ⟨_, rfl, ?_⟩; have n0_ := Aside0.mk (Kd.R_lower ho0 (below_size zb)); have n1_ := Aside0.mk (below_step zb hb); clear HB; have HO118 := n0_; have HB := n1_; clear n0_ n1_; (try clear hb); (try clear hb2); (try clear hk); (try clear hi); (try clear ho0); obtain ⟨Ao31, co31, eo31⟩ := Kd.R_slice HO118.out; subst eo31) | ((with_reducible refine gate_callee (f := 59) rfl ?_); refine goesL_ (some 21) rfl rfl Try.func59 (by kernel_rfl) rfl #[.int .i64 a0, .slice Ao31 t116.length co31] rfl zl ?_; (with_reducible refine (class_in.calls a0 _ _ t116 t119 _ ?side1 ?side2 A9.out).mono ?_); (case side1 => repeat (first | exact (Kd.R_reads' HO118.out).2.2 | (with_reducible refine Kd.C_alloc ?_ _) | (with_reducible refine Kd.C_drewN ?_ _) | (with_reducible refine Kd.C_drew ?_))); (case side2 => exact (Kd.R_reads' HO118.out).2.1); rintro e w32 ⟨rfl, hb⟩; refine ⟨_, rfl, ?_⟩; have n0_ := Aside0.mk (Kd.R_below (zk HO118.out) hb); have n1_ := Aside0.mk (below_step zb hb); clear HO118; clear HB; have HO118 := n0_; have HB := n1_; clear n0_ n1_; (try clear hb); (try clear hb2); (try clear hk); (try clear hi)) | ((with_reducible refine gate_callee (f := 27) rfl ?_); refine goesL_ (some 26) rfl rfl Try.func27 (by kernel_rfl) rfl #[.int .i64 a0] rfl zl ?_; (with_reducible refine (class_Skeleton.calls a0 t120 _ A11.out).mono ?_); rintro e w33 ⟨rfl, hb⟩; refine ⟨_, rfl, ?_⟩; have n0_ := Aside0.mk (Kd.R_below (zk HO118.out) hb); have n1_ := Aside0.mk (below_step zb hb); clear HO118; clear HB; have HO118 := n0_; have HB := n1_; clear n0_ n1_; (try clear hb); (try clear hb2); (try clear hk); (try clear hi)))
     go_ret
     exact ⟨zr, zb⟩
   ·rw [if_neg c10] at H
    have c10b0 : (t119 == 0) = false := beq_eq_false_iff_ne.mpr c10
    have c10b1 : (t119 != 0) = true := bne_iff_ne.mpr c10
    obtain rfl := Option.some.inj H
    go_wp2_with (first | ((with_reducible refine gate_callee (f := 60) rfl ?_); refine goesL_ (some 20) rfl rfl Try.func60 (by kernel_rfl) rfl #[] rfl zl ?_; (with_reducible refine (class_spans.calls  t116 _ A8.out).mono ?_); rintro e w34 ⟨v117, rfl, ho0, hb⟩; refine ⟨_, rfl, ?_⟩; have n0_ := Aside0.mk (Kd.R_lower ho0 (below_size zb)); have n1_ := Aside0.mk (below_step zb hb); clear HB; have HO118 := n0_; have HB := n1_; clear n0_ n1_; (try clear hb); (try clear hb2); (try clear hk); (try clear hi); (try clear ho0); obtain ⟨Ao35, co35, eo35⟩ := Kd.R_slice HO118.out; subst eo35) | ((with_reducible refine gate_callee (f := 59) rfl ?_); refine goesL_ (some 21) rfl rfl Try.func59 (by kernel_rfl) rfl #[.int .i64 a0, .slice Ao35 t116.length co35] rfl zl ?_; (with_reducible refine (class_in.calls a0 _ _ t116 t119 _ ?side1 ?side2 A9.out).mono ?_); (case side1 => repeat (first | exact (Kd.R_reads' HO118.out).2.2 | (with_reducible refine Kd.C_alloc ?_ _) | (with_reducible refine Kd.C_drewN ?_ _) | (with_reducible refine Kd.C_drew ?_))); (case side2 => exact (Kd.R_reads' HO118.out).2.1); rintro e w36 ⟨rfl, hb⟩; refine ⟨_, rfl, ?_⟩; have n0_ := Aside0.mk (Kd.R_below (zk HO118.out) hb); have n1_ := Aside0.mk (below_step zb hb); clear HO118; clear HB; have HO118 := n0_; have HB := n1_; clear n0_ n1_; (try clear hb); (try clear hb2); (try clear hk); (try clear hi)))
    go_ret
    exact ⟨zr, zb⟩

/-! ### class_Danger: function 23 -/
def class_Danger.f (k : Nat) (a0 : Int) : Option (Bool) := (class_Of.f k a0).bind fun t125 => (some (decide (t125 > 3)))
theorem class_Danger.mono : ∀ a0 k, LeO (class_Danger.f k a0) (class_Danger.f (k + 1) a0) := by
 intro a0 k
 unfold class_Danger.f
 repeat' first
   | (with_reducible exact class_Of.mono _ _)
   | (with_reducible exact LeO.refl _)
   | (with_reducible exact LeO.none _)
   | (with_reducible refine LeO.ite ?_ ?_)
   | (with_reducible refine LeO.bind ?_ (fun _ => ?_))
   | exact class_Of.mono _ _
   | exact LeO.none _
   | refine LeO.ite ?_ ?_
   | refine LeO.bind ?_ (fun _ => ?_)
set_option maxHeartbeats 8000000 in
set_option maxRecDepth 100000 in
theorem class_Danger.calls (k : Nat) (a0 : Int) (r : Bool) (w : World) (h : class_Danger.f k a0 = some r) :
  Calls Try.prog 23 #[.int .i64 a0] w fun e w' => e = .returned (.bool r) ∧ Below w.heap.size w w' := by
 have HB := Aside0.mk (Below.refl w.heap.size w)
 have H : ((class_Of.f k a0).bind fun t125 => (some (decide (t125 > 3)))) = some r := h
 clear h
 replace H := Option.bind_eq_some_iff.mp H
 obtain ⟨t125, A20, H⟩ := H
 replace H : (some (decide (t125 > 3))) = some r := H
 have A2 := Aside0.mk A20
 clear A20
 obtain rfl := Option.some.inj H
 go_enter Try.func23, Try.ntmps23
 go_wp2_with (first | ((with_reducible refine gate_callee (f := 44) rfl ?_); refine goesL_ (some 4) rfl rfl Try.func44 (by kernel_rfl) rfl #[.int .i64 a0] rfl zl ?_; (with_reducible refine (class_Of.calls k a0 t125 _ A2.out).mono ?_); rintro e w3 ⟨rfl, hb⟩; refine ⟨_, rfl, ?_⟩; have n0_ := Aside0.mk (below_step zb hb); clear HB; have HB := n0_; clear n0_; (try clear hb); (try clear hb2); (try clear hk); (try clear hi)))
 go_ret
 exact ⟨zr, zb⟩

/-! ### utf8_appendRuneNonASCII: function 62 -/
def utf8_appendRuneNonASCII.j0 : Nat → List Int → Int → Int → Bool → Option (List Int)
 | 0, _, _, _, _ => none
 | k + 1, x0, x1, x5, x25 => if x25 = true then ((some (([Go.bits .or .u8 224 ((x1 / 4096) % 256), (128 + x1 / 64 % 64), (128 + x1 % 64)] : List Int) : List Int)).bind fun y132 => (if x0.length + y132.length < 140737488355328 then (some (x0 ++ y132)) else (none))) else (if x5 > 65535 then (if x5 ≤ 1114111 then ((some (([Go.bits .or .u8 240 ((x1 / 262144) % 256), (128 + x1 / 4096 % 64), (128 + x1 / 64 % 64), (128 + x1 % 64)] : List Int) : List Int)).bind fun y138 => (if x0.length + y138.length < 140737488355328 then (some (x0 ++ y138)) else (none))) else ((some (([239, 191, 189] : List Int) : List Int)).bind fun y144 => (if x0.length + y144.length < 140737488355328 then (some (x0 ++ y144)) else (none)))) else ((some (([239, 191, 189] : List Int) : List Int)).bind fun y150 => (if x0.length + y150.length < 140737488355328 then (some (x0 ++ y150)) else (none))))
def utf8_appendRuneNonASCII.f (k : Nat) (l0 : List Int) (a1 : Int) : Option (List Int) := if ((a1) % 4294967296) ≤ 2047 then ((some (([Go.bits .or .u8 192 ((a1 / 64) % 256), (128 + a1 % 64)] : List Int) : List Int)).bind fun y126 => (if l0.length + y126.length < 140737488355328 then (some (l0 ++ y126)) else (none))) else (if ((a1) % 4294967296) < 55296 then (utf8_appendRuneNonASCII.j0 k l0 a1 ((a1) % 4294967296) (decide (((a1) % 4294967296) < 55296))) else (if 57343 < ((a1) % 4294967296) then (utf8_appendRuneNonASCII.j0 k l0 a1 ((a1) % 4294967296) (decide (((a1) % 4294967296) ≤ 65535))) else (utf8_appendRuneNonASCII.j0 k l0 a1 ((a1) % 4294967296) false)))
theorem utf8_appendRuneNonASCII.mono_l : ∀ k, (∀ y0 y1 y2 y3, LeO (utf8_appendRuneNonASCII.j0 k y0 y1 y2 y3) (utf8_appendRuneNonASCII.j0 (k + 1) y0 y1 y2 y3))
 | 0 => fun _ _ _ _ r h => by simp [utf8_appendRuneNonASCII.j0] at h
 | k + 1 => by
  have ih0 := utf8_appendRuneNonASCII.mono_l k
  ·intro y0 y1 y2 y3
   unfold utf8_appendRuneNonASCII.j0
   repeat' first
   | (with_reducible exact ih0 _ _ _ _)
   | (with_reducible exact LeO.refl _)
   | (with_reducible exact LeO.none _)
   | (with_reducible refine LeO.ite ?_ ?_)
   | (with_reducible refine LeO.bind ?_ (fun _ => ?_))
   | exact ih0 _ _ _ _
   | exact LeO.none _
   | refine LeO.ite ?_ ?_
   | refine LeO.bind ?_ (fun _ => ?_)
theorem utf8_appendRuneNonASCII.mono : ∀ a0 a1 k, LeO (utf8_appendRuneNonASCII.f k a0 a1) (utf8_appendRuneNonASCII.f (k + 1) a0 a1) := by
 intro a0 a1 k
 have ih0 := utf8_appendRuneNonASCII.mono_l k
 unfold utf8_appendRuneNonASCII.f
 repeat' first
   | (with_reducible exact ih0 _ _ _ _)
   | (with_reducible exact LeO.refl _)
   | (with_reducible exact LeO.none _)
   | (with_reducible refine LeO.ite ?_ ?_)
   | (with_reducible refine LeO.bind ?_ (fun _ => ?_))
   | exact ih0 _ _ _ _
   | exact LeO.none _
   | refine LeO.ite ?_ ?_
   | refine LeO.bind ?_ (fun _ => ?_)
set_option maxHeartbeats 8000000 in
set_option maxRecDepth 100000 in
theorem utf8_appendRuneNonASCII.calls (k : Nat) (P0_ : Nat → Prop) (u9000_ : Value) (l0 : List Int) (a1 : Int) (r : List Int) (w0 w : World) (hB : Below w0.heap.size w0 w) (ho0 : Kd.R (Kd.int .u8) 5 w w0.heap.size P0_ u9000_ l0) (h : utf8_appendRuneNonASCII.f k l0 a1 = some r) :
  Calls Try.prog 62 #[u9000_, .int .i32 a1] w fun e w' => ∃ v0_ : Value, e = .returned (v0_) ∧ Kd.R (Kd.int .u8) 5 w' w0.heap.size (fun k_ => (P0_ k_ ∨ w.heap.size ≤ k_)) v0_ r ∧ Below w0.heap.size w0 w' ∧ Kept w w' (fun k_ => P0_ k_) := by
 have HO0 := Aside0.mk (show Kd.R (Kd.int .u8) 5 w w0.heap.size (fun k_ => (P0_ k_ ∨ w.heap.size ≤ k_)) u9000_ l0 from Kd.R_mono ho0 (fun k_ hk => (.inl hk)))
 have HK := Aside0.mk (Kept.refl w (fun k_ => P0_ k_))
 have HW0 := Aside0.mk hB.size
 have HB := Aside0.mk hB
 clear hB
 have H : (if ((a1) % 4294967296) ≤ 2047 then ((some (([Go.bits .or .u8 192 ((a1 / 64) % 256), (128 + a1 % 64)] : List Int) : List Int)).bind fun y126 => (if l0.length + y126.length < 140737488355328 then (some (l0 ++ y126)) else (none))) else (if ((a1) % 4294967296) < 55296 then (utf8_appendRuneNonASCII.j0 k l0 a1 ((a1) % 4294967296) (decide (((a1) % 4294967296) < 55296))) else (if 57343 < ((a1) % 4294967296) then (utf8_appendRuneNonASCII.j0 k l0 a1 ((a1) % 4294967296) (decide (((a1) % 4294967296) ≤ 65535))) else (utf8_appendRuneNonASCII.j0 k l0 a1 ((a1) % 4294967296) false)))) = some r := h
 clear h
 by_cases c3 : ((a1) % 4294967296) ≤ 2047
 ·rw [if_pos c3] at H
  have c3b0 : decide (((a1) % 4294967296) ≤ 2047) = true := decide_eq_true c3
  clear c3
  obtain ⟨y126, hy126⟩ : ∃ y_ : List Int, y_ = (([Go.bits .or .u8 192 ((a1 / 64) % 256), (128 + a1 % 64)] : List Int)) := ⟨_, rfl⟩
  replace H : (if l0.length + y126.length < 140737488355328 then (some (l0 ++ y126)) else (none)) = some r := by first | (rw [hy126]; with_reducible exact H) | (have H2_ := (Option.bind_some _ _).symm.trans H; rw [hy126]; with_reducible exact H2_) | (have H2_ := (Option.bind_some _ _).symm.trans H; with_reducible exact H2_) | with_reducible exact H | (rw [hy126]; exact H) | exact H
  have Ny126 := Aside0.mk hy126
  clear hy126
  by_cases c4 : l0.length + y126.length < 140737488355328
  ·rw [if_pos c4] at H
   have LMc4 := Aside0.mk c4
   clear c4
   obtain ⟨y129, hy129⟩ : ∃ y_ : List Int, y_ = (l0 ++ y126) := ⟨_, rfl⟩
   replace H : (some y129) = some r := by first | (rw [hy129]; with_reducible exact H) | (have H2_ := (Option.bind_some _ _).symm.trans H; rw [hy129]; with_reducible exact H2_) | (have H2_ := (Option.bind_some _ _).symm.trans H; with_reducible exact H2_) | with_reducible exact H | (rw [hy129]; exact H) | exact H
   have Ny129 := Aside0.mk hy129
   clear hy129
   obtain rfl := Option.some.inj H
   go_enter Try.func62, Try.ntmps62
   go_wp2_with (first | ((with_reducible refine gate_dst (N := 23) rfl ?_); refine Kd.R_lit (Kd.int .u8) _ 5 ?hg (N := 23) ?hd (xs := ([Go.bits .or .u8 192 ((a1 / 64) % 256), (128 + a1 % 64)] : List Int)) (inner := [.int .u8 (Go.bits .or .u8 192 ((a1 / 64) % 256)), .int .u8 ((128 + a1 % 64))]) (ok := fun _ => True) (okp := fun _ => True) ?hr ?hp (fun _ hk => hk) trivial (Below.refl _ _) (Nat.le_refl _) (by simp) ?_; (case hd => rfl); (case hg => rfl); (case hr => first | (go_simp; done) | (go_simp; rfl)); (case hp => exact (Reps.one (show Kd.M (Kd.int .u8) _ _ _ (Go.bits .or .u8 192 ((a1 / 64) % 256)) [.int .u8 (Go.bits .or .u8 192 ((a1 / 64) % 256))] from rfl) (Reps.one (show Kd.M (Kd.int .u8) _ _ _ ((128 + a1 % 64)) [.int .u8 ((128 + a1 % 64))] from rfl) (Reps.none _ _)))); intro v127 w5 ho6 hb hg_ hnew_; clear hg_ hnew_; (first | rw [← Ny126.out] at ho6 | (simp only [Int.reduceToNat] at ho6; rw [← Ny126.out] at ho6)); have n0_ := Aside0.mk (Kd.R_elder' (zk HO0.out) (Kd.R_base ho6) hb); have n1_ := Aside0.mk (Kd.R_lower (Kd.R_new' (Kd.R_newM (M := fun k_ => (P0_ k_ ∨ w.heap.size ≤ k_)) ho6 (by first | exact HK.out.1 | exact (show Kept w _ (fun k_ => P0_ k_) from by repeat (first | (with_reducible first | exact HK.out | apply Kept.alloc | apply Kept.drewN | apply Kept.drew) | exact HK.out)).1) (fun k_ h_ => .inr h_)) (Kd.R_lt (zk HO0.out))) (below_size zb)); have n2_ := Aside0.mk (Kept.below (S := (fun k_ => P0_ k_)) (by repeat (first | (with_reducible first | exact HK.out | apply Kept.alloc | apply Kept.drewN | apply Kept.drew) | exact HK.out)) hb); have n3_ := Aside0.mk (below_step zb hb); clear HO0; clear HK; clear HB; have HO0 := n0_; have HO128 := n1_; have HK := n2_; have HB := n3_; clear n0_ n1_ n2_ n3_; clear hb ho6; obtain ⟨Ao8, co8, eo8⟩ := Kd.R_slice HO128.out; subst eo8) | ((with_reducible refine gate_builtin (b := .append) (xs := #[.tmp 14, .tmp 23]) rfl ?_); at_builtin; refine Kd.R_append_rows (Kd.int .u8) (w0 := w0) w0.heap.size rfl (.tmp 14) (.tmp 23) 46 5 (.int .u8 0) 1 rfl Try.underlying46 info5 rfl (by decide) (by omega) u9000_ l0 y126 _ _ _ (fun k_ => (P0_ k_ ∨ w.heap.size ≤ k_) ∧ some k_ ≠ (.slice Ao8 y126.length co8 : Value).ownBlock) (fun _ => False) rfl rfl ?aO ?aR (fun _ _ h => h) (fun _ h => h.elim) ?aF ?aB ?aS ?aL ?_; (case aR => repeat (first | exact (Kd.R_reads' HO128.out).2.2 | (with_reducible refine Kd.C_alloc ?_ _) | (with_reducible refine Kd.C_drewN ?_ _) | (with_reducible refine Kd.C_drew ?_))); (case aB => exact zb); (case aF => exact (fun k_ hk => ⟨(.inr (Nat.le_trans (by first | exact HK.out.1 | exact (show Kept w _ (fun k_ => P0_ k_) from by repeat (first | (with_reducible first | exact HK.out | apply Kept.alloc | apply Kept.drewN | apply Kept.drew) | exact HK.out)).1) hk)), Kd.fresh' (Kd.R_lt (zk HO128.out)) k_ hk⟩)); (case aO => exact (zk HO0.out)); (case aS => exact (below_size zb)); (case aL => have := LMc4.out; omega); intro v130 w7 ho hb hg hat; rw [← Ny129.out] at ho; have n0_ := Aside0.mk (Kd.R_after (ok := (fun k_ => (P0_ k_ ∨ w.heap.size ≤ k_))) (by (with_reducible repeat (first | apply Kd.R_alloc | apply Kd.R_drewN | apply Kd.R_drew)); exact Kd.R_mono HO128.out (fun _ hk => ⟨hk.1.1, hk.2⟩)) hg hat); have n1_ := Aside0.mk (hb); have n2_ := Aside0.mk (Kept.of_grown (S := (fun k_ => P0_ k_)) hg (by repeat (first | (with_reducible first | exact HK.out | apply Kept.alloc | apply Kept.drewN | apply Kept.drew) | exact HK.out)) (fun k_ e_ => (HO0.out.1 k_ e_).1)); have n3_ := Aside0.mk (ho); clear HO128; clear HB; clear HK; clear HO0; have HO128 := n0_; have HB := n1_; have HK := n2_; have HO131 := n3_; clear n0_ n1_ n2_ n3_; clear ho hb hg hat))
   go_ret
   exact ⟨_, zr, by (with_reducible repeat (first | apply Kd.R_alloc | apply Kd.R_drewN | apply Kd.R_drew)); exact Kd.R_mono HO131.out (fun _ hk => hk.1), by repeat (first | (with_reducible first | exact HB.out | apply below_alloc | apply pw_below_drewN | apply below_drew1) | exact HB.out), by repeat (first | (with_reducible first | exact HK.out | apply Kept.alloc | apply Kept.drewN | apply Kept.drew) | exact HK.out)⟩
  ·rw [if_neg c4] at H
   exact absurd H (by simp)
 ·rw [if_neg c3] at H
  have c3b0 : decide (((a1) % 4294967296) ≤ 2047) = false := decide_eq_false c3
  clear c3
  have HC9 := Aside0.mk H
  clear H
  go_enter Try.func62, Try.ntmps62
  go_upto_if 25 with (fail)
  go_cut [25] (fun v25 wc => ∃ (kq : Nat) (x25_8 : Bool), v25 = .bool x25_8 ∧ Aside0 (utf8_appendRuneNonASCII.j0 kq l0 a1 ((a1) % 4294967296) x25_8 = some r) ∧ Aside0 (kq ≤ k) ∧ Aside0 (Kd.R (Kd.int .u8) 5 wc w0.heap.size (fun k_ => (P0_ k_ ∨ w.heap.size ≤ k_)) u9000_ l0) ∧ Aside0 (Kept w wc (fun k_ => P0_ k_)) ∧ Aside0 (Below w0.heap.size w0 wc))
  case first =>
   have H := HC9.out
   clear HC9
   by_cases c10 : ((a1) % 4294967296) < 55296
   ·rw [if_pos c10] at H
    have c10b0 : decide (((a1) % 4294967296) < 55296) = true := decide_eq_true c10
    clear c10
    (first | rw [c10b0] | (simp only [i64_w, i32_w]; rw [c10b0]) | skip)
    have H' := Aside0.mk H
    clear H
    go_wp2
    go_meet
    case rel => exact ⟨_, (decide (((a1) % 4294967296) < 55296)), (by first | rfl | (simp; done) | (simp [*]; done)), H', ⟨by first | omega | exact Nat.le_refl _⟩, ⟨by (with_reducible repeat (first | apply Kd.R_alloc | apply Kd.R_drewN | apply Kd.R_drew)); exact HO0.out⟩, ⟨by repeat (first | (with_reducible first | exact HK.out | apply Kept.alloc | apply Kept.drewN | apply Kept.drew) | exact HK.out)⟩, ⟨by repeat (first | (with_reducible first | exact HB.out | apply below_alloc | apply pw_below_drewN | apply below_drew1) | exact HB.out)⟩⟩
   ·rw [if_neg c10] at H
    have c10b0 : decide (((a1) % 4294967296) < 55296) = false := decide_eq_false c10
    clear c10
    (first | rw [c10b0] | (simp only [i64_w, i32_w]; rw [c10b0]) | skip)
    by_cases c11 : 57343 < ((a1) % 4294967296)
    ·rw [if_pos c11] at H
     have c11b0 : decide (57343 < ((a1) % 4294967296)) = true := decide_eq_true c11
     clear c11
     have H' := Aside0.mk H
     clear H
     go_wp2
     go_meet
     case rel => exact ⟨_, (decide (((a1) % 4294967296) ≤ 65535)), (by first | rfl | (simp; done) | (simp [*]; done)), H', ⟨by first | omega | exact Nat.le_refl _⟩, ⟨by (with_reducible repeat (first | apply Kd.R_alloc | apply Kd.R_drewN | apply Kd.R_drew)); exact HO0.out⟩, ⟨by repeat (first | (with_reducible first | exact HK.out | apply Kept.alloc | apply Kept.drewN | apply Kept.drew) | exact HK.out)⟩, ⟨by repeat (first | (with_reducible first | exact HB.out | apply below_alloc | apply pw_below_drewN | apply below_drew1) | exact HB.out)⟩⟩
    ·rw [if_neg c11] at H
     have c11b0 : decide (57343 < ((a1) % 4294967296)) = false := decide_eq_false c11
     clear c11
     have H' := Aside0.mk H
     clear H
     go_wp2
     go_meet
     case rel => exact ⟨_, (false), (by first | rfl | (simp; done) | (simp [*]; done)), H', ⟨by first | omega | exact Nat.le_refl _⟩, ⟨by (with_reducible repeat (first | apply Kd.R_alloc | apply Kd.R_drewN | apply Kd.R_drew)); exact HO0.out⟩, ⟨by repeat (first | (with_reducible first | exact HK.out | apply Kept.alloc | apply Kept.drewN | apply Kept.drew) | exact HK.out)⟩, ⟨by repeat (first | (with_reducible first | exact HB.out | apply below_alloc | apply pw_below_drewN | apply below_drew1) | exact HB.out)⟩⟩
  case rest =>
   clear HC9
   try clear c1
   try clear p2
   try clear c3
   try clear c3b0
   try clear c4
   try clear c6
   try clear c10
   try clear c10b0
   try clear c11
   try clear c11b0
   obtain ⟨kq, x25_8, rfl, HA, HJ8, HO_0, HK, HB⟩ := hcut
   cases kq with
   | zero => exact absurd HA.out (by simp [utf8_appendRuneNonASCII.j0])
   | succ kj8 =>
    have H := HA.out
    clear HA
    simp only [utf8_appendRuneNonASCII.j0] at H
    by_cases c12 : x25_8 = true
    ·subst c12
     have H1 : ((some (([Go.bits .or .u8 224 ((a1 / 4096) % 256), (128 + a1 / 64 % 64), (128 + a1 % 64)] : List Int) : List Int)).bind fun y132 => (if l0.length + y132.length < 140737488355328 then (some (l0 ++ y132)) else (none))) = some r := by rw [if_pos rfl] at H; exact H
     clear H
     have H := H1
     clear H1
     obtain ⟨y132, hy132⟩ : ∃ y_ : List Int, y_ = (([Go.bits .or .u8 224 ((a1 / 4096) % 256), (128 + a1 / 64 % 64), (128 + a1 % 64)] : List Int)) := ⟨_, rfl⟩
     replace H : (if l0.length + y132.length < 140737488355328 then (some (l0 ++ y132)) else (none)) = some r := by first | (rw [hy132]; with_reducible exact H) | (have H2_ := (Option.bind_some _ _).symm.trans H; rw [hy132]; with_reducible exact H2_) | (have H2_ := (Option.bind_some _ _).symm.trans H; with_reducible exact H2_) | with_reducible exact H | (rw [hy132]; exact H) | exact H
     have Ny132 := Aside0.mk hy132
     clear hy132
     by_cases c13 : l0.length + y132.length < 140737488355328
     ·rw [if_pos c13] at H
      have LMc13 := Aside0.mk c13
      clear c13
      obtain ⟨y135, hy135⟩ : ∃ y_ : List Int, y_ = (l0 ++ y132) := ⟨_, rfl⟩
      replace H : (some y135) = some r := by first | (rw [hy135]; with_reducible exact H) | (have H2_ := (Option.bind_some _ _).symm.trans H; rw [hy135]; with_reducible exact H2_) | (have H2_ := (Option.bind_some _ _).symm.trans H; with_reducible exact H2_) | with_reducible exact H | (rw [hy135]; exact H) | exact H
      have Ny135 := Aside0.mk hy135
      clear hy135
      obtain rfl := Option.some.inj H
      go_wp2_with (first | ((with_reducible refine gate_dst (N := 48) rfl ?_); refine Kd.R_lit (Kd.int .u8) _ 5 ?hg (N := 48) ?hd (xs := ([Go.bits .or .u8 224 ((a1 / 4096) % 256), (128 + a1 / 64 % 64), (128 + a1 % 64)] : List Int)) (inner := [.int .u8 (Go.bits .or .u8 224 ((a1 / 4096) % 256)), .int .u8 ((128 + a1 / 64 % 64)), .int .u8 ((128 + a1 % 64))]) (ok := fun _ => True) (okp := fun _ => True) ?hr ?hp (fun _ hk => hk) trivial (Below.refl _ _) (Nat.le_refl _) (by simp) ?_; (case hd => rfl); (case hg => rfl); (case hr => first | (go_simp; done) | (go_simp; rfl)); (case hp => exact (Reps.one (show Kd.M (Kd.int .u8) _ _ _ (Go.bits .or .u8 224 ((a1 / 4096) % 256)) [.int .u8 (Go.bits .or .u8 224 ((a1 / 4096) % 256))] from rfl) (Reps.one (show Kd.M (Kd.int .u8) _ _ _ ((128 + a1 / 64 % 64)) [.int .u8 ((128 + a1 / 64 % 64))] from rfl) (Reps.one (show Kd.M (Kd.int .u8) _ _ _ ((128 + a1 % 64)) [.int .u8 ((128 + a1 % 64))] from rfl) (Reps.none _ _))))); intro v133 w14 ho15 hb hg_ hnew_; clear hg_ hnew_; (first | rw [← Ny132.out] at ho15 | (simp only [Int.reduceToNat] at ho15; rw [← Ny132.out] at ho15)); have n0_ := Aside0.mk (Kd.R_elder' (zk HO_0.out) (Kd.R_base ho15) hb); have n1_ := Aside0.mk (Kd.R_lower (Kd.R_new' (Kd.R_newM (M := fun k_ => (P0_ k_ ∨ w.heap.size ≤ k_)) ho15 (by first | exact HK.out.1 | exact (show Kept w _ (fun k_ => P0_ k_) from by repeat (first | (with_reducible first | exact HK.out | apply Kept.alloc | apply Kept.drewN | apply Kept.drew) | exact HK.out)).1) (fun k_ h_ => .inr h_)) (Kd.R_lt (zk HO_0.out))) (below_size zb)); have n2_ := Aside0.mk (Kept.below (S := (fun k_ => P0_ k_)) (by repeat (first | (with_reducible first | exact HK.out | apply Kept.alloc | apply Kept.drewN | apply Kept.drew) | exact HK.out)) hb); have n3_ := Aside0.mk (below_step zb hb); clear HO_0; clear HK; clear HB; have HO_0 := n0_; have HO134 := n1_; have HK := n2_; have HB := n3_; clear n0_ n1_ n2_ n3_; clear hb ho15; obtain ⟨Ao17, co17, eo17⟩ := Kd.R_slice HO134.out; subst eo17) | ((with_reducible refine gate_builtin (b := .append) (xs := #[.tmp 34, .tmp 48]) rfl ?_); at_builtin; refine Kd.R_append_rows (Kd.int .u8) (w0 := w0) w0.heap.size rfl (.tmp 34) (.tmp 48) 46 5 (.int .u8 0) 1 rfl Try.underlying46 info5 rfl (by decide) (by omega) u9000_ l0 y132 _ _ _ (fun k_ => (P0_ k_ ∨ w.heap.size ≤ k_) ∧ some k_ ≠ (.slice Ao17 y132.length co17 : Value).ownBlock) (fun _ => False) rfl rfl ?aO ?aR (fun _ _ h => h) (fun _ h => h.elim) ?aF ?aB ?aS ?aL ?_; (case aR => repeat (first | exact (Kd.R_reads' HO134.out).2.2 | (with_reducible refine Kd.C_alloc ?_ _) | (with_reducible refine Kd.C_drewN ?_ _) | (with_reducible refine Kd.C_drew ?_))); (case aB => exact zb); (case aF => exact (fun k_ hk => ⟨(.inr (Nat.le_trans (by first | exact HK.out.1 | exact (show Kept w _ (fun k_ => P0_ k_) from by repeat (first | (with_reducible first | exact HK.out | apply Kept.alloc | apply Kept.drewN | apply Kept.drew) | exact HK.out)).1) hk)), Kd.fresh' (Kd.R_lt (zk HO134.out)) k_ hk⟩)); (case aO => exact (zk HO_0.out)); (case aS => exact (below_size zb)); (case aL => have := LMc13.out; omega); intro v136 w16 ho hb hg hat; rw [← Ny135.out] at ho; have n0_ := Aside0.mk (Kd.R_after (ok := (fun k_ => (P0_ k_ ∨ w.heap.size ≤ k_))) (by (with_reducible repeat (first | apply Kd.R_alloc | apply Kd.R_drewN | apply Kd.R_drew)); exact Kd.R_mono HO134.out (fun _ hk => ⟨hk.1.1, hk.2⟩)) hg hat); have n1_ := Aside0.mk (hb); have n2_ := Aside0.mk (Kept.of_grown (S := (fun k_ => P0_ k_)) hg (by repeat (first | (with_reducible first | exact HK.out | apply Kept.alloc | apply Kept.drewN | apply Kept.drew) | exact HK.out)) (fun k_ e_ => (HO_0.out.1 k_ e_).1)); have n3_ := Aside0.mk (ho); clear HO134; clear HB; clear HK; clear HO_0; have HO134 := n0_; have HB := n1_; have HK := n2_; have HO137 := n3_; clear n0_ n1_ n2_ n3_; clear ho hb hg hat))
      go_ret
      exact ⟨_, zr, by (with_reducible repeat (first | apply Kd.R_alloc | apply Kd.R_drewN | apply Kd.R_drew)); exact Kd.R_mono HO137.out (fun _ hk => hk.1), by repeat (first | (with_reducible first | exact HB.out | apply below_alloc | apply pw_below_drewN | apply below_drew1) | exact HB.out), by repeat (first | (with_reducible first | exact HK.out | apply Kept.alloc | apply Kept.drewN | apply Kept.drew) | exact HK.out)⟩
     ·rw [if_neg c13] at H
      exact absurd H (by simp)
    ·replace c12 := Bool.eq_false_iff.mpr c12
     subst c12
     have H1 : (if ((a1) % 4294967296) > 65535 then (if ((a1) % 4294967296) ≤ 1114111 then ((some (([Go.bits .or .u8 240 ((a1 / 262144) % 256), (128 + a1 / 4096 % 64), (128 + a1 / 64 % 64), (128 + a1 % 64)] : List Int) : List Int)).bind fun y138 => (if l0.length + y138.length < 140737488355328 then (some (l0 ++ y138)) else (none))) else ((some (([239, 191, 189] : List Int) : List Int)).bind fun y144 => (if l0.length + y144.length < 140737488355328 then (some (l0 ++ y144)) else (none)))) else ((some (([239, 191, 189] : List Int) : List Int)).bind fun y150 => (if l0.length + y150.length < 140737488355328 then (some (l0 ++ y150)) else (none)))) = some r := by rw [if_neg (show ¬ (false = true) by decide)] at H; exact H
     clear H
     have H := H1
     clear H1
     by_cases c18 : ((a1) % 4294967296) > 65535
     ·rw [if_pos c18] at H
      have c18b0 : decide (65535 < ((a1) % 4294967296)) = true := decide_eq_true c18
      clear c18
      by_cases c19 : ((a1) % 4294967296) ≤ 1114111
      ·rw [if_pos c19] at H
       have c19b0 : decide (((a1) % 4294967296) ≤ 1114111) = true := decide_eq_true c19
       clear c19
       obtain ⟨y138, hy138⟩ : ∃ y_ : List Int, y_ = (([Go.bits .or .u8 240 ((a1 / 262144) % 256), (128 + a1 / 4096 % 64), (128 + a1 / 64 % 64), (128 + a1 % 64)] : List Int)) := ⟨_, rfl⟩
       replace H : (if l0.length + y138.length < 140737488355328 then (some (l0 ++ y138)) else (none)) = some r := by first | (rw [hy138]; with_reducible exact H) | (have H2_ := (Option.bind_some _ _).symm.trans H; rw [hy138]; with_reducible exact H2_) | (have H2_ := (Option.bind_some _ _).symm.trans H; with_reducible exact H2_) | with_reducible exact H | (rw [hy138]; exact H) | exact H
       have Ny138 := Aside0.mk hy138
       clear hy138
       by_cases c20 : l0.length + y138.length < 140737488355328
       ·rw [if_pos c20] at H
        have LMc20 := Aside0.mk c20
        clear c20
        obtain ⟨y141, hy141⟩ : ∃ y_ : List Int, y_ = (l0 ++ y138) := ⟨_, rfl⟩
        replace H : (some y141) = some r := by first | (rw [hy141]; with_reducible exact H) | (have H2_ := (Option.bind_some _ _).symm.trans H; rw [hy141]; with_reducible exact H2_) | (have H2_ := (Option.bind_some _ _).symm.trans H; with_reducible exact H2_) | with_reducible exact H | (rw [hy141]; exact H) | exact H
        have Ny141 := Aside0.mk hy141
        clear hy141
        obtain rfl := Option.some.inj H
        go_wp2_with (first | ((with_reducible refine gate_dst (N := 76) rfl ?_); refine Kd.R_lit (Kd.int .u8) _ 5 ?hg (N := 76) ?hd (xs := ([Go.bits .or .u8 240 ((a1 / 262144) % 256), (128 + a1 / 4096 % 64), (128 + a1 / 64 % 64), (128 + a1 % 64)] : List Int)) (inner := [.int .u8 (Go.bits .or .u8 240 ((a1 / 262144) % 256)), .int .u8 ((128 + a1 / 4096 % 64)), .int .u8 ((128 + a1 / 64 % 64)), .int .u8 ((128 + a1 % 64))]) (ok := fun _ => True) (okp := fun _ => True) ?hr ?hp (fun _ hk => hk) trivial (Below.refl _ _) (Nat.le_refl _) (by simp) ?_; (case hd => rfl); (case hg => rfl); (case hr => first | (go_simp; done) | (go_simp; rfl)); (case hp => exact (Reps.one (show Kd.M (Kd.int .u8) _ _ _ (Go.bits .or .u8 240 ((a1 / 262144) % 256)) [.int .u8 (Go.bits .or .u8 240 ((a1 / 262144) % 256))] from rfl) (Reps.one (show Kd.M (Kd.int .u8) _ _ _ ((128 + a1 / 4096 % 64)) [.int .u8 ((128 + a1 / 4096 % 64))] from rfl) (Reps.one (show Kd.M (Kd.int .u8) _ _ _ ((128 + a1 / 64 % 64)) [.int .u8 ((128 + a1 / 64 % 64))] from rfl) (Reps.one (show Kd.M (Kd.int .u8) _ _ _ ((128 + a1 % 64)) [.int .u8 ((128 + a1 % 64))] from rfl) (Reps.none _ _)))))); intro v139 w21 ho22 hb hg_ hnew_; clear hg_ hnew_; (first | rw [← Ny138.out] at ho22 | (simp only [Int.reduceToNat] at ho22; rw [← Ny138.out] at ho22)); have n0_ := Aside0.mk (Kd.R_elder' (zk HO_0.out) (Kd.R_base ho22) hb); have n1_ := Aside0.mk (Kd.R_lower (Kd.R_new' (Kd.R_newM (M := fun k_ => (P0_ k_ ∨ w.heap.size ≤ k_)) ho22 (by first | exact HK.out.1 | exact (show Kept w _ (fun k_ => P0_ k_) from by repeat (first | (with_reducible first | exact HK.out | apply Kept.alloc | apply Kept.drewN | apply Kept.drew) | exact HK.out)).1) (fun k_ h_ => .inr h_)) (Kd.R_lt (zk HO_0.out))) (below_size zb)); have n2_ := Aside0.mk (Kept.below (S := (fun k_ => P0_ k_)) (by repeat (first | (with_reducible first | exact HK.out | apply Kept.alloc | apply Kept.drewN | apply Kept.drew) | exact HK.out)) hb); have n3_ := Aside0.mk (below_step zb hb); clear HO_0; clear HK; clear HB; have HO_0 := n0_; have HO140 := n1_; have HK := n2_; have HB := n3_; clear n0_ n1_ n2_ n3_; clear hb ho22; obtain ⟨Ao24, co24, eo24⟩ := Kd.R_slice HO140.out; subst eo24) | ((with_reducible refine gate_builtin (b := .append) (xs := #[.tmp 57, .tmp 76]) rfl ?_); at_builtin; refine Kd.R_append_rows (Kd.int .u8) (w0 := w0) w0.heap.size rfl (.tmp 57) (.tmp 76) 46 5 (.int .u8 0) 1 rfl Try.underlying46 info5 rfl (by decide) (by omega) u9000_ l0 y138 _ _ _ (fun k_ => (P0_ k_ ∨ w.heap.size ≤ k_) ∧ some k_ ≠ (.slice Ao24 y138.length co24 : Value).ownBlock) (fun _ => False) rfl rfl ?aO ?aR (fun _ _ h => h) (fun _ h => h.elim) ?aF ?aB ?aS ?aL ?_; (case aR => repeat (first | exact (Kd.R_reads' HO140.out).2.2 | (with_reducible refine Kd.C_alloc ?_ _) | (with_reducible refine Kd.C_drewN ?_ _) | (with_reducible refine Kd.C_drew ?_))); (case aB => exact zb); (case aF => exact (fun k_ hk => ⟨(.inr (Nat.le_trans (by first | exact HK.out.1 | exact (show Kept w _ (fun k_ => P0_ k_) from by repeat (first | (with_reducible first | exact HK.out | apply Kept.alloc | apply Kept.drewN | apply Kept.drew) | exact HK.out)).1) hk)), Kd.fresh' (Kd.R_lt (zk HO140.out)) k_ hk⟩)); (case aO => exact (zk HO_0.out)); (case aS => exact (below_size zb)); (case aL => have := LMc20.out; omega); intro v142 w23 ho hb hg hat; rw [← Ny141.out] at ho; have n0_ := Aside0.mk (Kd.R_after (ok := (fun k_ => (P0_ k_ ∨ w.heap.size ≤ k_))) (by (with_reducible repeat (first | apply Kd.R_alloc | apply Kd.R_drewN | apply Kd.R_drew)); exact Kd.R_mono HO140.out (fun _ hk => ⟨hk.1.1, hk.2⟩)) hg hat); have n1_ := Aside0.mk (hb); have n2_ := Aside0.mk (Kept.of_grown (S := (fun k_ => P0_ k_)) hg (by repeat (first | (with_reducible first | exact HK.out | apply Kept.alloc | apply Kept.drewN | apply Kept.drew) | exact HK.out)) (fun k_ e_ => (HO_0.out.1 k_ e_).1)); have n3_ := Aside0.mk (ho); clear HO140; clear HB; clear HK; clear HO_0; have HO140 := n0_; have HB := n1_; have HK := n2_; have HO143 := n3_; clear n0_ n1_ n2_ n3_; clear ho hb hg hat))
        go_ret
        exact ⟨_, zr, by (with_reducible repeat (first | apply Kd.R_alloc | apply Kd.R_drewN | apply Kd.R_drew)); exact Kd.R_mono HO143.out (fun _ hk => hk.1), by repeat (first | (with_reducible first | exact HB.out | apply below_alloc | apply pw_below_drewN | apply below_drew1) | exact HB.out), by repeat (first | (with_reducible first | exact HK.out | apply Kept.alloc | apply Kept.drewN | apply Kept.drew) | exact HK.out)⟩
       ·rw [if_neg c20] at H
        exact absurd H (by simp)
      ·rw [if_neg c19] at H
       have c19b0 : decide (((a1) % 4294967296) ≤ 1114111) = false := decide_eq_false c19
       clear c19
       obtain ⟨y144, hy144⟩ : ∃ y_ : List Int, y_ = (([239, 191, 189] : List Int)) := ⟨_, rfl⟩
       replace H : (if l0.length + y144.length < 140737488355328 then (some (l0 ++ y144)) else (none)) = some r := by first | (rw [hy144]; with_reducible exact H) | (have H2_ := (Option.bind_some _ _).symm.trans H; rw [hy144]; with_reducible exact H2_) | (have H2_ := (Option.bind_some _ _).symm.trans H; with_reducible exact H2_) | with_reducible exact H | (rw [hy144]; exact H) | exact H
       have Ny144 := Aside0.mk hy144
       clear hy144
       by_cases c25 : l0.length + y144.length < 140737488355328
       ·rw [if_pos c25] at H
        have LMc25 := Aside0.mk c25
        clear c25
        obtain ⟨y147, hy147⟩ : ∃ y_ : List Int, y_ = (l0 ++ y144) := ⟨_, rfl⟩
        replace H : (some y147) = some r := by first | (rw [hy147]; with_reducible exact H) | (have H2_ := (Option.bind_some _ _).symm.trans H; rw [hy147]; with_reducible exact H2_) | (have H2_ := (Option.bind_some _ _).symm.trans H; with_reducible exact H2_) | with_reducible exact H | (rw [hy147]; exact H) | exact H
        have Ny147 := Aside0.mk hy147
        clear hy147
        obtain rfl := Option.some.inj H
        go_wp2_with (first | ((with_reducible refine gate_dst (N := 9) rfl ?_); refine Kd.R_lit (Kd.int .u8) _ 5 ?hg (N := 9) ?hd (xs := ([239, 191, 189] : List Int)) (inner := [.int .u8 239, .int .u8 191, .int .u8 189]) (ok := fun _ => True) (okp := fun _ => True) ?hr ?hp (fun _ hk => hk) trivial (Below.refl _ _) (Nat.le_refl _) (by simp) ?_; (case hd => rfl); (case hg => rfl); (case hr => first | (go_simp; done) | (go_simp; rfl)); (case hp => exact (Reps.one (show Kd.M (Kd.int .u8) _ _ _ 239 [.int .u8 239] from rfl) (Reps.one (show Kd.M (Kd.int .u8) _ _ _ 191 [.int .u8 191] from rfl) (Reps.one (show Kd.M (Kd.int .u8) _ _ _ 189 [.int .u8 189] from rfl) (Reps.none _ _))))); intro v145 w26 ho27 hb hg_ hnew_; clear hg_ hnew_; (first | rw [← Ny144.out] at ho27 | (simp only [Int.reduceToNat] at ho27; rw [← Ny144.out] at ho27)); have n0_ := Aside0.mk (Kd.R_elder' (zk HO_0.out) (Kd.R_base ho27) hb); have n1_ := Aside0.mk (Kd.R_lower (Kd.R_new' (Kd.R_newM (M := fun k_ => (P0_ k_ ∨ w.heap.size ≤ k_)) ho27 (by first | exact HK.out.1 | exact (show Kept w _ (fun k_ => P0_ k_) from by repeat (first | (with_reducible first | exact HK.out | apply Kept.alloc | apply Kept.drewN | apply Kept.drew) | exact HK.out)).1) (fun k_ h_ => .inr h_)) (Kd.R_lt (zk HO_0.out))) (below_size zb)); have n2_ := Aside0.mk (Kept.below (S := (fun k_ => P0_ k_)) (by repeat (first | (with_reducible first | exact HK.out | apply Kept.alloc | apply Kept.drewN | apply Kept.drew) | exact HK.out)) hb); have n3_ := Aside0.mk (below_step zb hb); clear HO_0; clear HK; clear HB; have HO_0 := n0_; have HO146 := n1_; have HK := n2_; have HB := n3_; clear n0_ n1_ n2_ n3_; clear hb ho27; obtain ⟨Ao29, co29, eo29⟩ := Kd.R_slice HO146.out; subst eo29) | ((with_reducible refine gate_builtin (b := .append) (xs := #[.tmp 8, .tmp 9]) rfl ?_); at_builtin; refine Kd.R_append_rows (Kd.int .u8) (w0 := w0) w0.heap.size rfl (.tmp 8) (.tmp 9) 46 5 (.int .u8 0) 1 rfl Try.underlying46 info5 rfl (by decide) (by omega) u9000_ l0 y144 _ _ _ (fun k_ => (P0_ k_ ∨ w.heap.size ≤ k_) ∧ some k_ ≠ (.slice Ao29 y144.length co29 : Value).ownBlock) (fun _ => False) rfl rfl ?aO ?aR (fun _ _ h => h) (fun _ h => h.elim) ?aF ?aB ?aS ?aL ?_; (case aR => repeat (first | exact (Kd.R_reads' HO146.out).2.2 | (with_reducible refine Kd.C_alloc ?_ _) | (with_reducible refine Kd.C_drewN ?_ _) | (with_reducible refine Kd.C_drew ?_))); (case aB => exact zb); (case aF => exact (fun k_ hk => ⟨(.inr (Nat.le_trans (by first | exact HK.out.1 | exact (show Kept w _ (fun k_ => P0_ k_) from by repeat (first | (with_reducible first | exact HK.out | apply Kept.alloc | apply Kept.drewN | apply Kept.drew) | exact HK.out)).1) hk)), Kd.fresh' (Kd.R_lt (zk HO146.out)) k_ hk⟩)); (case aO => exact (zk HO_0.out)); (case aS => exact (below_size zb)); (case aL => have := LMc25.out; omega); intro v148 w28 ho hb hg hat; rw [← Ny147.out] at ho; have n0_ := Aside0.mk (Kd.R_after (ok := (fun k_ => (P0_ k_ ∨ w.heap.size ≤ k_))) (by (with_reducible repeat (first | apply Kd.R_alloc | apply Kd.R_drewN | apply Kd.R_drew)); exact Kd.R_mono HO146.out (fun _ hk => ⟨hk.1.1, hk.2⟩)) hg hat); have n1_ := Aside0.mk (hb); have n2_ := Aside0.mk (Kept.of_grown (S := (fun k_ => P0_ k_)) hg (by repeat (first | (with_reducible first | exact HK.out | apply Kept.alloc | apply Kept.drewN | apply Kept.drew) | exact HK.out)) (fun k_ e_ => (HO_0.out.1 k_ e_).1)); have n3_ := Aside0.mk (ho); clear HO146; clear HB; clear HK; clear HO_0; have HO146 := n0_; have HB := n1_; have HK := n2_; have HO149 := n3_; clear n0_ n1_ n2_ n3_; clear ho hb hg hat))
        go_ret
        exact ⟨_, zr, by (with_reducible repeat (first | apply Kd.R_alloc | apply Kd.R_drewN | apply Kd.R_drew)); exact Kd.R_mono HO149.out (fun _ hk => hk.1), by repeat (first | (with_reducible first | exact HB.out | apply below_alloc | apply pw_below_drewN | apply below_drew1) | exact HB.out), by repeat (first | (with_reducible first | exact HK.out | apply Kept.alloc | apply Kept.drewN | apply Kept.drew) | exact HK.out)⟩
       ·rw [if_neg c25] at H
        exact absurd H (by simp)
     ·rw [if_neg c18] at H
      have c18b0 : decide (65535 < ((a1) % 4294967296)) = false := decide_eq_false c18
      clear c18
      obtain ⟨y150, hy150⟩ : ∃ y_ : List Int, y_ = (([239, 191, 189] : List Int)) := ⟨_, rfl⟩
      replace H : (if l0.length + y150.length < 140737488355328 then (some (l0 ++ y150)) else (none)) = some r := by first | (rw [hy150]; with_reducible exact H) | (have H2_ := (Option.bind_some _ _).symm.trans H; rw [hy150]; with_reducible exact H2_) | (have H2_ := (Option.bind_some _ _).symm.trans H; with_reducible exact H2_) | with_reducible exact H | (rw [hy150]; exact H) | exact H
      have Ny150 := Aside0.mk hy150
      clear hy150
      by_cases c30 : l0.length + y150.length < 140737488355328
      ·rw [if_pos c30] at H
       have LMc30 := Aside0.mk c30
       clear c30
       obtain ⟨y153, hy153⟩ : ∃ y_ : List Int, y_ = (l0 ++ y150) := ⟨_, rfl⟩
       replace H : (some y153) = some r := by first | (rw [hy153]; with_reducible exact H) | (have H2_ := (Option.bind_some _ _).symm.trans H; rw [hy153]; with_reducible exact H2_) | (have H2_ := (Option.bind_some _ _).symm.trans H; with_reducible exact H2_) | with_reducible exact H | (rw [hy153]; exact H) | exact H
       have Ny153 := Aside0.mk hy153
       clear hy153
       obtain rfl := Option.some.inj H
       go_wp2_with (first | ((with_reducible refine gate_dst (N := 9) rfl ?_); refine Kd.R_lit (Kd.int .u8) _ 5 ?hg (N := 9) ?hd (xs := ([239, 191, 189] : List Int)) (inner := [.int .u8 239, .int .u8 191, .int .u8 189]) (ok := fun _ => True) (okp := fun _ => True) ?hr ?hp (fun _ hk => hk) trivial (Below.refl _ _) (Nat.le_refl _) (by simp) ?_; (case hd => rfl); (case hg => rfl); (case hr => first | (go_simp; done) | (go_simp; rfl)); (case hp => exact (Reps.one (show Kd.M (Kd.int .u8) _ _ _ 239 [.int .u8 239] from rfl) (Reps.one (show Kd.M (Kd.int .u8) _ _ _ 191 [.int .u8 191] from rfl) (Reps.one (show Kd.M (Kd.int .u8) _ _ _ 189 [.int .u8 189] from rfl) (Reps.none _ _))))); intro v151 w31 ho32 hb hg_ hnew_; clear hg_ hnew_; (first | rw [← Ny150.out] at ho32 | (simp only [Int.reduceToNat] at ho32; rw [← Ny150.out] at ho32)); have n0_ := Aside0.mk (Kd.R_elder' (zk HO_0.out) (Kd.R_base ho32) hb); have n1_ := Aside0.mk (Kd.R_lower (Kd.R_new' (Kd.R_newM (M := fun k_ => (P0_ k_ ∨ w.heap.size ≤ k_)) ho32 (by first | exact HK.out.1 | exact (show Kept w _ (fun k_ => P0_ k_) from by repeat (first | (with_reducible first | exact HK.out | apply Kept.alloc | apply Kept.drewN | apply Kept.drew) | exact HK.out)).1) (fun k_ h_ => .inr h_)) (Kd.R_lt (zk HO_0.out))) (below_size zb)); have n2_ := Aside0.mk (Kept.below (S := (fun k_ => P0_ k_)) (by repeat (first | (with_reducible first | exact HK.out | apply Kept.alloc | apply Kept.drewN | apply Kept.drew) | exact HK.out)) hb); have n3_ := Aside0.mk (below_step zb hb); clear HO_0; clear HK; clear HB; have HO_0 := n0_; have HO152 := n1_; have HK := n2_; have HB := n3_; clear n0_ n1_ n2_ n3_; clear hb ho32; obtain ⟨Ao34, co34, eo34⟩ := Kd.R_slice HO152.out; subst eo34) | ((with_reducible refine gate_builtin (b := .append) (xs := #[.tmp 8, .tmp 9]) rfl ?_); at_builtin; refine Kd.R_append_rows (Kd.int .u8) (w0 := w0) w0.heap.size rfl (.tmp 8) (.tmp 9) 46 5 (.int .u8 0) 1 rfl Try.underlying46 info5 rfl (by decide) (by omega) u9000_ l0 y150 _ _ _ (fun k_ => (P0_ k_ ∨ w.heap.size ≤ k_) ∧ some k_ ≠ (.slice Ao34 y150.length co34 : Value).ownBlock) (fun _ => False) rfl rfl ?aO ?aR (fun _ _ h => h) (fun _ h => h.elim) ?aF ?aB ?aS ?aL ?_; (case aR => repeat (first | exact (Kd.R_reads' HO152.out).2.2 | (with_reducible refine Kd.C_alloc ?_ _) | (with_reducible refine Kd.C_drewN ?_ _) | (with_reducible refine Kd.C_drew ?_))); (case aB => exact zb); (case aF => exact (fun k_ hk => ⟨(.inr (Nat.le_trans (by first | exact HK.out.1 | exact (show Kept w _ (fun k_ => P0_ k_) from by repeat (first | (with_reducible first | exact HK.out | apply Kept.alloc | apply Kept.drewN | apply Kept.drew) | exact HK.out)).1) hk)), Kd.fresh' (Kd.R_lt (zk HO152.out)) k_ hk⟩)); (case aO => exact (zk HO_0.out)); (case aS => exact (below_size zb)); (case aL => have := LMc30.out; omega); intro v154 w33 ho hb hg hat; rw [← Ny153.out] at ho; have n0_ := Aside0.mk (Kd.R_after (ok := (fun k_ => (P0_ k_ ∨ w.heap.size ≤ k_))) (by (with_reducible repeat (first | apply Kd.R_alloc | apply Kd.R_drewN | apply Kd.R_drew)); exact Kd.R_mono HO152.out (fun _ hk => ⟨hk.1.1, hk.2⟩)) hg hat); have n1_ := Aside0.mk (hb); have n2_ := Aside0.mk (Kept.of_grown (S := (fun k_ => P0_ k_)) hg (by repeat (first | (with_reducible first | exact HK.out | apply Kept.alloc | apply Kept.drewN | apply Kept.drew) | exact HK.out)) (fun k_ e_ => (HO_0.out.1 k_ e_).1)); have n3_ := Aside0.mk (ho); clear HO152; clear HB; clear HK; clear HO_0; have HO152 := n0_; have HB := n1_; have HK := n2_; have HO155 := n3_; clear n0_ n1_ n2_ n3_; clear ho hb hg hat))
       go_ret
       exact ⟨_, zr, by (with_reducible repeat (first | apply Kd.R_alloc | apply Kd.R_drewN | apply Kd.R_drew)); exact Kd.R_mono HO155.out (fun _ hk => hk.1), by repeat (first | (with_reducible first | exact HB.out | apply below_alloc | apply pw_below_drewN | apply below_drew1) | exact HB.out), by repeat (first | (with_reducible first | exact HK.out | apply Kept.alloc | apply Kept.drewN | apply Kept.drew) | exact HK.out)⟩
      ·rw [if_neg c30] at H
       exact absurd H (by simp)

/-! ### utf8_AppendRune: function 46 -/
def utf8_AppendRune.f (k : Nat) (l0 : List Int) (a1 : Int) : Option (List Int) := if ((a1) % 4294967296) ≤ 127 then (if l0.length < 140737488355328 then (some (l0 ++ [(a1) % 256])) else (none)) else ((utf8_appendRuneNonASCII.f k l0 a1).bind fun t159 => (some t159))
theorem utf8_AppendRune.mono : ∀ a0 a1 k, LeO (utf8_AppendRune.f k a0 a1) (utf8_AppendRune.f (k + 1) a0 a1) := by
 intro a0 a1 k
 unfold utf8_AppendRune.f
 repeat' first
   | (with_reducible exact utf8_appendRuneNonASCII.mono _ _ _)
   | (with_reducible exact LeO.refl _)
   | (with_reducible exact LeO.none _)
   | (with_reducible refine LeO.ite ?_ ?_)
   | (with_reducible refine LeO.bind ?_ (fun _ => ?_))
   | exact utf8_appendRuneNonASCII.mono _ _ _
   | exact LeO.none _
   | refine LeO.ite ?_ ?_
   | refine LeO.bind ?_ (fun _ => ?_)
set_option maxHeartbeats 8000000 in
set_option maxRecDepth 100000 in
theorem utf8_AppendRune.calls (k : Nat) (P0_ : Nat → Prop) (u9000_ : Value) (l0 : List Int) (a1 : Int) (r : List Int) (w0 w : World) (hB : Below w0.heap.size w0 w) (ho0 : Kd.R (Kd.int .u8) 5 w w0.heap.size P0_ u9000_ l0) (h : utf8_AppendRune.f k l0 a1 = some r) :
  Calls Try.prog 46 #[u9000_, .int .i32 a1] w fun e w' => ∃ v0_ : Value, e = .returned (v0_) ∧ Kd.R (Kd.int .u8) 5 w' w0.heap.size (fun k_ => (P0_ k_ ∨ w.heap.size ≤ k_)) v0_ r ∧ Below w0.heap.size w0 w' ∧ Kept w w' (fun k_ => P0_ k_) := by
 have HO0 := Aside0.mk (show Kd.R (Kd.int .u8) 5 w w0.heap.size (fun k_ => (P0_ k_ ∨ w.heap.size ≤ k_)) u9000_ l0 from Kd.R_mono ho0 (fun k_ hk => (.inl hk)))
 have HK := Aside0.mk (Kept.refl w (fun k_ => P0_ k_))
 have HW0 := Aside0.mk hB.size
 have HB := Aside0.mk hB
 clear hB
 have H : (if ((a1) % 4294967296) ≤ 127 then (if l0.length < 140737488355328 then (some (l0 ++ [(a1) % 256])) else (none)) else ((utf8_appendRuneNonASCII.f k l0 a1).bind fun t159 => (some t159))) = some r := h
 clear h
 by_cases c3 : ((a1) % 4294967296) ≤ 127
 ·rw [if_pos c3] at H
  have c3b0 : decide (((a1) % 4294967296) ≤ 127) = true := decide_eq_true c3
  clear c3
  by_cases c4 : l0.length < 140737488355328
  ·rw [if_pos c4] at H
   have LMc4 := Aside0.mk c4
   clear c4
   obtain ⟨y156, hy156⟩ : ∃ y_ : List Int, y_ = (l0 ++ [(a1) % 256]) := ⟨_, rfl⟩
   replace H : (some y156) = some r := by first | (rw [hy156]; with_reducible exact H) | (have H2_ := (Option.bind_some _ _).symm.trans H; rw [hy156]; with_reducible exact H2_) | (have H2_ := (Option.bind_some _ _).symm.trans H; with_reducible exact H2_) | with_reducible exact H | (rw [hy156]; exact H) | exact H
   have Ny156 := Aside0.mk hy156
   clear hy156
   obtain rfl := Option.some.inj H
   go_enter Try.func46, Try.ntmps46
   go_wp2_with (first | ((with_reducible refine gate_builtin (b := .append) (xs := #[.tmp 8, .tmp 11]) rfl ?_); at_builtin; refine Kd.R_append (Kd.int .u8) (w0 := w0) w0.heap.size rfl (.tmp 8) (.tmp 11) 46 5 (.int .u8 0) 1 rfl Try.underlying46 info5 rfl (by decide) (by omega) u9000_ l0 ((a1) % 256) [.int .u8 ((a1) % 256)] (fun k_ => (P0_ k_ ∨ w.heap.size ≤ k_)) (fun _ => False) rfl rfl ?aP (fun _ hk => hk.elim) ?aF ?aO ?aB ?aS ?aL ?_; (case aP => exact rfl); (case aB => exact zb); (case aF => exact (fun k_ hk => (.inr (Nat.le_trans (by first | exact HK.out.1 | exact (show Kept w _ (fun k_ => P0_ k_) from by repeat (first | (with_reducible first | exact HK.out | apply Kept.alloc | apply Kept.drewN | apply Kept.drew) | exact HK.out)).1) hk)))); (case aO => exact (zk HO0.out)); (case aS => exact (below_size zb)); (case aL => have := LMc4.out; omega); intro v157 w5 ho hb hg hat; rw [← Ny156.out] at ho; have n0_ := Aside0.mk (hb); have n1_ := Aside0.mk (Kept.of_grown (S := (fun k_ => P0_ k_)) hg (by repeat (first | (with_reducible first | exact HK.out | apply Kept.alloc | apply Kept.drewN | apply Kept.drew) | exact HK.out)) (fun k_ e_ => (HO0.out.1 k_ e_))); have n2_ := Aside0.mk (ho); clear HB; clear HK; clear HO0; have HB := n0_; have HK := n1_; have HO158 := n2_; clear n0_ n1_ n2_; clear ho hb hg hat))
   go_ret
   exact ⟨_, zr, by (with_reducible repeat (first | apply Kd.R_alloc | apply Kd.R_drewN | apply Kd.R_drew)); exact HO158.out, by repeat (first | (with_reducible first | exact HB.out | apply below_alloc | apply pw_below_drewN | apply below_drew1) | exact HB.out), by repeat (first | (with_reducible first | exact HK.out | apply Kept.alloc | apply Kept.drewN | apply Kept.drew) | exact HK.out)⟩
  ·rw [if_neg c4] at H
   exact absurd H (by simp)
 ·rw [if_neg c3] at H
  have c3b0 : decide (((a1) % 4294967296) ≤ 127) = false := decide_eq_false c3
  clear c3
  replace H := Option.bind_eq_some_iff.mp H
  obtain ⟨t159, A60, H⟩ := H
  replace H : (some t159) = some r := H
  have A6 := Aside0.mk A60
  clear A60
  obtain rfl := Option.some.inj H
  obtain ⟨Ao7, co7, eo7⟩ := Kd.R_slice HO0.out
  subst eo7
  go_enter Try.func46, Try.ntmps46
  go_wp2_with (first | ((with_reducible refine gate_callee (f := 62) rfl ?_); refine goesL_ (some 15) rfl rfl Try.func62 (by kernel_rfl) rfl #[.slice Ao7 l0.length co7, .int .i32 a1] rfl zl ?_; (with_reducible refine (utf8_appendRuneNonASCII.calls k (fun k_ => some k_ = (.slice Ao7 l0.length co7 : Value).ownBlock) (.slice Ao7 l0.length co7) l0 a1 t159 w0 _ ?side1 ?side2 A6.out).mono ?_); (case side1 => repeat (first | (with_reducible first | exact HB.out | apply below_alloc | apply pw_below_drewN | apply below_drew1) | exact HB.out)); (case side2 => exact Kd.R_tight rfl HO0.out); rintro e w8 ⟨v160, rfl, ho0, hb, hkp⟩; refine ⟨_, rfl, ?_⟩; have n0_ := Aside0.mk (Kd.R_mono (ok' := fun k_ => (P0_ k_ ∨ w.heap.size ≤ k_)) ho0 (fun k_ hk_ => Or.elim hk_ (fun hs_ => (HO0.out.1 k_ (hs_).symm)) (fun hn_ => (.inr (Nat.le_trans (by first | exact HK.out.1 | exact (show Kept w _ (fun k_ => P0_ k_) from by repeat (first | (with_reducible first | exact HK.out | apply Kept.alloc | apply Kept.drewN | apply Kept.drew) | exact HK.out)).1) hn_))))); have n1_ := Aside0.mk (Kept.then_ (S := (fun k_ => P0_ k_)) (by repeat (first | (with_reducible first | exact HK.out | apply Kept.alloc | apply Kept.drewN | apply Kept.drew) | exact HK.out)) hkp (fun k_ hs_ => (fun e_ => (HO0.out.1 k_ e_.symm)) hs_)); have n2_ := Aside0.mk (hb); clear HK; clear HB; clear HO0; have HO161 := n0_; have HK := n1_; have HB := n2_; clear n0_ n1_ n2_; (try clear hb); (try clear hkp); (try clear ho0)))
  go_ret
  exact ⟨_, zr, by (with_reducible repeat (first | apply Kd.R_alloc | apply Kd.R_drewN | apply Kd.R_drew)); exact HO161.out, by repeat (first | (with_reducible first | exact HB.out | apply below_alloc | apply pw_below_drewN | apply below_drew1) | exact HB.out), by repeat (first | (with_reducible first | exact HK.out | apply Kept.alloc | apply Kept.drewN | apply Kept.drew) | exact HK.out)⟩

/-! ### utf_Encode: function 24 -/
def utf_Encode.l0 : Nat → List Int → List Int → Int → Int → Option (ByteArray)
 | 0, _, _, _, _ => none
 | k + 1, x3, x6, x7, x8 => if x8 < x7 then (if 0 ≤ x8 then (if x8 < (x6.length : Int) then ((utf_point.f (rd x6 x8)).bind fun t163 => (if t163 = true then ((utf8_AppendRune.f k x3 (wrap32 (rd x6 x8))).bind fun t164 => (utf_Encode.l0 k t164 x6 x7 (wrap64 (x8 + 1)))) else ((utf_Right.f (rd x6 x8)).bind fun t167 => (if t167 = true then (if x3.length < 140737488355328 then (utf_Encode.l0 k (x3 ++ [(wrap64 ((rd x6 x8) - 1114112)) % 256]) x6 x7 (wrap64 (x8 + 1))) else (none)) else (utf_Encode.l0 k x3 x6 x7 (wrap64 (x8 + 1))))))) else (none)) else (none)) else (some (strOfNums x3))
def utf_Encode.f (k : Nat) (l0 : List Int) : Option (ByteArray) := utf_Encode.l0 k ([] : List Int) l0 (l0.length : Int) 0
theorem utf_Encode.mono_l : ∀ k, (∀ y0 y1 y2 y3, LeO (utf_Encode.l0 k y0 y1 y2 y3) (utf_Encode.l0 (k + 1) y0 y1 y2 y3))
 | 0 => fun _ _ _ _ r h => by simp [utf_Encode.l0] at h
 | k + 1 => by
  have ih0 := utf_Encode.mono_l k
  ·intro y0 y1 y2 y3
   unfold utf_Encode.l0
   repeat' first
   | (with_reducible exact ih0 _ _ _ _)
   | (with_reducible exact utf8_AppendRune.mono _ _ _)
   | (with_reducible exact LeO.refl _)
   | (with_reducible exact LeO.none _)
   | (with_reducible refine LeO.ite ?_ ?_)
   | (with_reducible refine LeO.bind ?_ (fun _ => ?_))
   | exact ih0 _ _ _ _
   | exact utf8_AppendRune.mono _ _ _
   | exact LeO.none _
   | refine LeO.ite ?_ ?_
   | refine LeO.bind ?_ (fun _ => ?_)
theorem utf_Encode.mono : ∀ a0 k, LeO (utf_Encode.f k a0) (utf_Encode.f (k + 1) a0) := by
 intro a0 k
 have ih0 := utf_Encode.mono_l k
 unfold utf_Encode.f
 repeat' first
   | (with_reducible exact ih0 _ _ _ _)
   | (with_reducible exact utf8_AppendRune.mono _ _ _)
   | (with_reducible exact LeO.refl _)
   | (with_reducible exact LeO.none _)
   | (with_reducible refine LeO.ite ?_ ?_)
   | (with_reducible refine LeO.bind ?_ (fun _ => ?_))
   | exact ih0 _ _ _ _
   | exact utf8_AppendRune.mono _ _ _
   | exact LeO.none _
   | refine LeO.ite ?_ ?_
   | refine LeO.bind ?_ (fun _ => ?_)
set_option maxHeartbeats 8000000 in
set_option maxRecDepth 100000 in
theorem utf_Encode.calls (k : Nat) (A0 : Option Addr) (c0 : Nat) (l0 : List Int) (r : ByteArray) (w : World) (hr0 : Kd.C (Kd.int .i64) w A0 l0.length l0) (hc0 : l0.length ≤ c0) (h : utf_Encode.f k l0 = some r) :
  Calls Try.prog 24 #[.slice A0 l0.length c0] w fun e w' => e = .returned (.string r) ∧ Below w.heap.size w w' := by
 have HR0 := Aside0.mk hr0
 have HC0 := Aside0.mk hc0
 clear hr0 hc0
 have HB := Aside0.mk (Below.refl w.heap.size w)
 have H : (utf_Encode.l0 k ([] : List Int) l0 (l0.length : Int) 0) = some r := h
 clear h
 have H' := Aside0.mk H
 clear H
 go_enter Try.func24, Try.ntmps24
 go_wp2
 go_loopg [3, 8] k (fun kq v3 v8 w' => ∃ (x3_1 : List Int) (x8_1 : Int), v8 = .int .i64 x8_1 ∧ Aside0 (utf_Encode.l0 kq x3_1 l0 (l0.length : Int) x8_1 = some r) ∧ Aside0 (kq ≤ k) ∧ Aside0 (Kd.R (Kd.int .u8) 5 w' w.heap.size (fun _ => True) v3 x3_1) ∧ Aside0 (Below w.heap.size w w'))
 case atStart => exact ⟨(([] : List Int)), (0), (by first | rfl | (simp; done) | (simp [*]; done)), H', ⟨Nat.le_refl _⟩, ⟨by first | exact Kd.R_nil _ _ _ _ _ | exact Kd.N_nil _ _ _ _ _ | exact Kd.V_nil _ _ _ _ _ | exact Kd.Q_nil _ _ _ _ _ | exact Kd.S_nil _ _ _ _ _⟩, ⟨by repeat (first | (with_reducible first | exact HB.out | apply below_alloc | apply pw_below_drewN | apply below_drew1) | exact HB.out)⟩⟩
 case round =>
  clear H'
  obtain ⟨x3_1, x8_1, rfl, HA, HK1, HO_3, HB⟩ := hrel
  cases gk with
  | zero => exact absurd HA.out (by simp [utf_Encode.l0])
  | succ k1 =>
   have H := HA.out
   clear HA
   simp only [utf_Encode.l0] at H
   by_cases c2 : x8_1 < (l0.length : Int)
   ·rw [if_pos c2] at H
    have c2b0 : decide (x8_1 < (l0.length : Int)) = true := decide_eq_true c2
    clear c2
    by_cases c3 : 0 ≤ x8_1
    ·rw [if_pos c3] at H
     have c3b0 : decide (0 ≤ x8_1) = true := decide_eq_true c3
     clear c3
     by_cases c4 : x8_1 < (l0.length : Int)
     ·rw [if_pos c4] at H
      have c4b0 : decide (x8_1 < (l0.length : Int)) = true := decide_eq_true c4
      clear c4
      replace H := Option.bind_eq_some_iff.mp H
      obtain ⟨t163, A50, H⟩ := H
      replace H : (if t163 = true then ((utf8_AppendRune.f k1 x3_1 (wrap32 (rd l0 x8_1))).bind fun t164 => (utf_Encode.l0 k1 t164 l0 (l0.length : Int) (wrap64 (x8_1 + 1)))) else ((utf_Right.f (rd l0 x8_1)).bind fun t167 => (if t167 = true then (if x3_1.length < 140737488355328 then (utf_Encode.l0 k1 (x3_1 ++ [(wrap64 ((rd l0 x8_1) - 1114112)) % 256]) l0 (l0.length : Int) (wrap64 (x8_1 + 1))) else (none)) else (utf_Encode.l0 k1 x3_1 l0 (l0.length : Int) (wrap64 (x8_1 + 1)))))) = some r := H
      have A5 := Aside0.mk A50
      clear A50
      by_cases c6 : t163 = true
      ·subst c6
       have H1 : ((utf8_AppendRune.f k1 x3_1 (wrap32 (rd l0 x8_1))).bind fun t164 => (utf_Encode.l0 k1 t164 l0 (l0.length : Int) (wrap64 (x8_1 + 1)))) = some r := by rw [if_pos rfl] at H; exact H
       clear H
       have H := H1
       clear H1
       replace H := Option.bind_eq_some_iff.mp H
       obtain ⟨t164, A70, H⟩ := H
       replace H : (utf_Encode.l0 k1 t164 l0 (l0.length : Int) (wrap64 (x8_1 + 1))) = some r := H
       have A7 := Aside0.mk A70
       clear A70
       have H' := Aside0.mk H
       clear H
       have p162 : 0 ≤ (x8_1 : Int) := of_decide_eq_true za
       have q162 : x8_1 < (l0.length : Int) := of_decide_eq_true za
       obtain ⟨ad162, e162, hx162_0⟩ := Kd.at_int HR0.out x8_1 p162 q162
       cases e162
       replace hx162_0 := (HB.out.cell (World.block_lt_of_cell? w _ hx162_0)).trans hx162_0
       replace p162 := eq_true p162
       replace q162 := eq_true q162
       go_wp2_with (first | ((with_reducible refine gate_callee (f := 45) rfl ?_); refine goesL_ (some 14) rfl rfl Try.func45 (by kernel_rfl) rfl #[.int .i64 (rd l0 x8_1)] rfl zl ?_; (with_reducible refine (utf_point.calls (rd l0 x8_1) true _ A5.out).mono ?_); rintro e w' ⟨rfl, ⟨nd, rfl⟩⟩; refine ⟨_, rfl, ?_⟩; obtain ⟨Ao8, co8, eo8⟩ := Kd.R_slice HO_3.out; subst eo8) | ((with_reducible refine gate_callee (f := 46) rfl ?_); refine goesL_ (some 18) rfl rfl Try.func46 (by kernel_rfl) rfl #[.slice Ao8 x3_1.length co8, .int .i32 (wrap32 (rd l0 x8_1))] rfl zl ?_; (with_reducible refine (utf8_AppendRune.calls k1 (fun k_ => some k_ = (.slice Ao8 x3_1.length co8 : Value).ownBlock) (.slice Ao8 x3_1.length co8) x3_1 (wrap32 (rd l0 x8_1)) t164 w _ ?side1 ?side2 A7.out).mono ?_); (case side1 => repeat (first | (with_reducible first | exact HB.out | apply below_alloc | apply pw_below_drewN | apply below_drew1) | exact HB.out)); (case side2 => exact Kd.R_tight rfl HO_3.out); rintro e w9 ⟨v165, rfl, ho0, hb, hkp⟩; refine ⟨_, rfl, ?_⟩; have n0_ := Aside0.mk (Kd.R_mono (ok' := fun k_ => True) ho0 (fun k_ hk_ => trivial)); have n1_ := Aside0.mk (hb); clear HB; clear HO_3; have HO166 := n0_; have HB := n1_; clear n0_ n1_; (try clear hb); (try clear hkp); (try clear ho0)))
       go_roundg k1
       case measure => have := HK1.out; omega
       case rel => exact ⟨(t164), (wrap64 (x8_1 + 1)), (by first | rfl | (simp; done) | (simp [*]; done)), H', ⟨by have := HK1.out; omega⟩, ⟨by (with_reducible repeat (first | apply Kd.R_alloc | apply Kd.R_drewN | apply Kd.R_drew)); exact HO166.out⟩, ⟨by repeat (first | (with_reducible first | exact HB.out | apply below_alloc | apply pw_below_drewN | apply below_drew1) | exact HB.out)⟩⟩
      ·replace c6 := Bool.eq_false_iff.mpr c6
       subst c6
       have H1 : ((utf_Right.f (rd l0 x8_1)).bind fun t167 => (if t167 = true then (if x3_1.length < 140737488355328 then (utf_Encode.l0 k1 (x3_1 ++ [(wrap64 ((rd l0 x8_1) - 1114112)) % 256]) l0 (l0.length : Int) (wrap64 (x8_1 + 1))) else (none)) else (utf_Encode.l0 k1 x3_1 l0 (l0.length : Int) (wrap64 (x8_1 + 1))))) = some r := by rw [if_neg (show ¬ (false = true) by decide)] at H; exact H
       clear H
       have H := H1
       clear H1
       replace H := Option.bind_eq_some_iff.mp H
       obtain ⟨t167, A100, H⟩ := H
       replace H : (if t167 = true then (if x3_1.length < 140737488355328 then (utf_Encode.l0 k1 (x3_1 ++ [(wrap64 ((rd l0 x8_1) - 1114112)) % 256]) l0 (l0.length : Int) (wrap64 (x8_1 + 1))) else (none)) else (utf_Encode.l0 k1 x3_1 l0 (l0.length : Int) (wrap64 (x8_1 + 1)))) = some r := H
       have A10 := Aside0.mk A100
       clear A100
       by_cases c11 : t167 = true
       ·subst c11
        have H1 : (if x3_1.length < 140737488355328 then (utf_Encode.l0 k1 (x3_1 ++ [(wrap64 ((rd l0 x8_1) - 1114112)) % 256]) l0 (l0.length : Int) (wrap64 (x8_1 + 1))) else (none)) = some r := by rw [if_pos rfl] at H; exact H
        clear H
        have H := H1
        clear H1
        by_cases c12 : x3_1.length < 140737488355328
        ·rw [if_pos c12] at H
         have LMc12 := Aside0.mk c12
         clear c12
         obtain ⟨y168, hy168⟩ : ∃ y_ : List Int, y_ = (x3_1 ++ [(wrap64 ((rd l0 x8_1) - 1114112)) % 256]) := ⟨_, rfl⟩
         replace H : (utf_Encode.l0 k1 y168 l0 (l0.length : Int) (wrap64 (x8_1 + 1))) = some r := by first | (rw [hy168]; with_reducible exact H) | (have H2_ := (Option.bind_some _ _).symm.trans H; rw [hy168]; with_reducible exact H2_) | (have H2_ := (Option.bind_some _ _).symm.trans H; with_reducible exact H2_) | with_reducible exact H | (rw [hy168]; exact H) | exact H
         have Ny168 := Aside0.mk hy168
         clear hy168
         have H' := Aside0.mk H
         clear H
         have p162 : 0 ≤ (x8_1 : Int) := of_decide_eq_true za
         have q162 : x8_1 < (l0.length : Int) := of_decide_eq_true za
         obtain ⟨ad162, e162, hx162_0⟩ := Kd.at_int HR0.out x8_1 p162 q162
         cases e162
         replace hx162_0 := (HB.out.cell (World.block_lt_of_cell? w _ hx162_0)).trans hx162_0
         replace p162 := eq_true p162
         replace q162 := eq_true q162
         go_wp2_with (first | ((with_reducible refine gate_callee (f := 45) rfl ?_); refine goesL_ (some 14) rfl rfl Try.func45 (by kernel_rfl) rfl #[.int .i64 (rd l0 x8_1)] rfl zl ?_; (with_reducible refine (utf_point.calls (rd l0 x8_1) false _ A5.out).mono ?_); rintro e w' ⟨rfl, ⟨nd, rfl⟩⟩; refine ⟨_, rfl, ?_⟩) | ((with_reducible refine gate_callee (f := 47) rfl ?_); refine goesL_ (some 21) rfl rfl Try.func47 (by kernel_rfl) rfl #[.int .i64 (rd l0 x8_1)] rfl zl ?_; (with_reducible refine (utf_Right.calls (rd l0 x8_1) true _ A10.out).mono ?_); rintro e w' ⟨rfl, ⟨nd, rfl⟩⟩; refine ⟨_, rfl, ?_⟩) | ((with_reducible refine gate_builtin (b := .append) (xs := #[.tmp 22, .tmp 26]) rfl ?_); at_builtin; refine Kd.R_append (Kd.int .u8) (w0 := w) w.heap.size rfl (.tmp 22) (.tmp 26) 46 5 (.int .u8 0) 1 rfl Try.underlying46 info5 rfl (by decide) (by omega) u3 x3_1 ((wrap64 ((rd l0 x8_1) - 1114112)) % 256) [.int .u8 ((wrap64 ((rd l0 x8_1) - 1114112)) % 256)] (fun _ => True) (fun _ => False) rfl rfl ?aP (fun _ hk => hk.elim) ?aF ?aO ?aB ?aS ?aL ?_; (case aP => exact rfl); (case aB => exact zb); (case aF => exact (fun _ _ => trivial)); (case aO => exact (zk HO_3.out)); (case aS => exact (below_size zb)); (case aL => have := LMc12.out; omega); intro v169 w13 ho hb hg hat; rw [← Ny168.out] at ho; have n0_ := Aside0.mk (hb); have n1_ := Aside0.mk (ho); clear HB; clear HO_3; have HB := n0_; have HO170 := n1_; clear n0_ n1_; clear ho hb hg hat))
         go_roundg k1
         case measure => have := HK1.out; omega
         case rel => exact ⟨(y168), (wrap64 (x8_1 + 1)), (by first | rfl | (simp; done) | (simp [*]; done)), H', ⟨by have := HK1.out; omega⟩, ⟨by (with_reducible repeat (first | apply Kd.R_alloc | apply Kd.R_drewN | apply Kd.R_drew)); exact HO170.out⟩, ⟨by repeat (first | (with_reducible first | exact HB.out | apply below_alloc | apply pw_below_drewN | apply below_drew1) | exact HB.out)⟩⟩
        ·rw [if_neg c12] at H
         exact absurd H (by simp)
       ·replace c11 := Bool.eq_false_iff.mpr c11
        subst c11
        have H1 : (utf_Encode.l0 k1 x3_1 l0 (l0.length : Int) (wrap64 (x8_1 + 1))) = some r := by rw [if_neg (show ¬ (false = true) by decide)] at H; exact H
        clear H
        have H := H1
        clear H1
        have H' := Aside0.mk H
        clear H
        have p162 : 0 ≤ (x8_1 : Int) := of_decide_eq_true za
        have q162 : x8_1 < (l0.length : Int) := of_decide_eq_true za
        obtain ⟨ad162, e162, hx162_0⟩ := Kd.at_int HR0.out x8_1 p162 q162
        cases e162
        replace hx162_0 := (HB.out.cell (World.block_lt_of_cell? w _ hx162_0)).trans hx162_0
        replace p162 := eq_true p162
        replace q162 := eq_true q162
        go_wp2_with (first | ((with_reducible refine gate_callee (f := 45) rfl ?_); refine goesL_ (some 14) rfl rfl Try.func45 (by kernel_rfl) rfl #[.int .i64 (rd l0 x8_1)] rfl zl ?_; (with_reducible refine (utf_point.calls (rd l0 x8_1) false _ A5.out).mono ?_); rintro e w' ⟨rfl, ⟨nd, rfl⟩⟩; refine ⟨_, rfl, ?_⟩) | ((with_reducible refine gate_callee (f := 47) rfl ?_); refine goesL_ (some 21) rfl rfl Try.func47 (by kernel_rfl) rfl #[.int .i64 (rd l0 x8_1)] rfl zl ?_; (with_reducible refine (utf_Right.calls (rd l0 x8_1) false _ A10.out).mono ?_); rintro e w' ⟨rfl, ⟨nd, rfl⟩⟩; refine ⟨_, rfl, ?_⟩))
        go_roundg k1
        case measure => have := HK1.out; omega
        case rel => exact ⟨(x3_1), (wrap64 (x8_1 + 1)), (by first | rfl | (simp; done) | (simp [*]; done)), H', ⟨by have := HK1.out; omega⟩, ⟨by (with_reducible repeat (first | apply Kd.R_alloc | apply Kd.R_drewN | apply Kd.R_drew)); exact HO_3.out⟩, ⟨by repeat (first | (with_reducible first | exact HB.out | apply below_alloc | apply pw_below_drewN | apply below_drew1) | exact HB.out)⟩⟩
     ·rw [if_neg c4] at H
      exact absurd H (by simp)
    ·rw [if_neg c3] at H
     exact absurd H (by simp)
   ·rw [if_neg c2] at H
    have c2b0 : decide (x8_1 < (l0.length : Int)) = false := decide_eq_false c2
    clear c2
    obtain rfl := Option.some.inj H
    have hcv14 := own_string (P := Try.prog) Try.underlying46 Try.underlying5 Try.underlying9 (Kd.own_of_R HO_3.out)
    go_wp2
    go_ret
    exact ⟨zr, zb⟩

/-! ### spoof_Strip_1: function 22 -/
def spoof_Strip_1.f (k : Nat) (a0 : Int) : Option (ByteArray) := (class_Danger.f k a0).bind fun t171 => (if t171 = true then (some (⟨#[]⟩ : ByteArray)) else ((utf_Encode.f k (([a0] : List Int))).bind fun t175 => (some t175)))
theorem spoof_Strip_1.mono : ∀ a0 k, LeO (spoof_Strip_1.f k a0) (spoof_Strip_1.f (k + 1) a0) := by
 intro a0 k
 unfold spoof_Strip_1.f
 repeat' first
   | (with_reducible exact class_Danger.mono _ _)
   | (with_reducible exact utf_Encode.mono _ _)
   | (with_reducible exact LeO.refl _)
   | (with_reducible exact LeO.none _)
   | (with_reducible refine LeO.ite ?_ ?_)
   | (with_reducible refine LeO.bind ?_ (fun _ => ?_))
   | exact class_Danger.mono _ _
   | exact utf_Encode.mono _ _
   | exact LeO.none _
   | refine LeO.ite ?_ ?_
   | refine LeO.bind ?_ (fun _ => ?_)
set_option maxHeartbeats 8000000 in
set_option maxRecDepth 100000 in
theorem spoof_Strip_1.calls (k : Nat) (a0 : Int) (r : ByteArray) (w : World) (h : spoof_Strip_1.f k a0 = some r) :
  Calls Try.prog 22 #[.int .i64 a0] w fun e w' => e = .returned (.string r) ∧ Below w.heap.size w w' := by
 have HB := Aside0.mk (Below.refl w.heap.size w)
 have H : ((class_Danger.f k a0).bind fun t171 => (if t171 = true then (some (⟨#[]⟩ : ByteArray)) else ((utf_Encode.f k (([a0] : List Int))).bind fun t175 => (some t175)))) = some r := h
 clear h
 replace H := Option.bind_eq_some_iff.mp H
 obtain ⟨t171, A20, H⟩ := H
 replace H : (if t171 = true then (some (⟨#[]⟩ : ByteArray)) else ((utf_Encode.f k (([a0] : List Int))).bind fun t175 => (some t175))) = some r := H
 have A2 := Aside0.mk A20
 clear A20
 by_cases c3 : t171 = true
 ·subst c3
  have H1 : (some (⟨#[]⟩ : ByteArray)) = some r := by rw [if_pos rfl] at H; exact H
  clear H
  have H := H1
  clear H1
  obtain rfl := Option.some.inj H
  go_enter Try.func22, Try.ntmps22
  go_wp2_with (first | ((with_reducible refine gate_callee (f := 23) rfl ?_); refine goesL_ (some 4) rfl rfl Try.func23 (by kernel_rfl) rfl #[.int .i64 a0] rfl zl ?_; (with_reducible refine (class_Danger.calls k a0 true _ A2.out).mono ?_); rintro e w4 ⟨rfl, hb⟩; refine ⟨_, rfl, ?_⟩; have n0_ := Aside0.mk (below_step zb hb); clear HB; have HB := n0_; clear n0_; (try clear hb); (try clear hb2); (try clear hk); (try clear hi)))
  go_ret
  exact ⟨zr, zb⟩
 ·replace c3 := Bool.eq_false_iff.mpr c3
  subst c3
  have H1 : ((utf_Encode.f k (([a0] : List Int))).bind fun t175 => (some t175)) = some r := by rw [if_neg (show ¬ (false = true) by decide)] at H; exact H
  clear H
  have H := H1
  clear H1
  obtain ⟨y172, hy172⟩ : ∃ y_ : List Int, y_ = (([a0] : List Int)) := ⟨_, rfl⟩
  replace H : ((utf_Encode.f k y172).bind fun t175 => (some t175)) = some r := by first | (rw [hy172]; with_reducible exact H) | (have H2_ := (Option.bind_some _ _).symm.trans H; rw [hy172]; with_reducible exact H2_) | (have H2_ := (Option.bind_some _ _).symm.trans H; with_reducible exact H2_) | with_reducible exact H | (rw [hy172]; exact H) | exact H
  have Ny172 := Aside0.mk hy172
  clear hy172
  replace H := Option.bind_eq_some_iff.mp H
  obtain ⟨t175, A50, H⟩ := H
  replace H : (some t175) = some r := H
  have A5 := Aside0.mk A50
  clear A50
  obtain rfl := Option.some.inj H
  go_enter Try.func22, Try.ntmps22
  go_wp2_with (first | ((with_reducible refine gate_callee (f := 23) rfl ?_); refine goesL_ (some 4) rfl rfl Try.func23 (by kernel_rfl) rfl #[.int .i64 a0] rfl zl ?_; (with_reducible refine (class_Danger.calls k a0 false _ A2.out).mono ?_); rintro e w6 ⟨rfl, hb⟩; refine ⟨_, rfl, ?_⟩; have n0_ := Aside0.mk (below_step zb hb); clear HB; have HB := n0_; clear n0_; (try clear hb); (try clear hb2); (try clear hk); (try clear hi)) | ((with_reducible refine gate_dst (N := 6) rfl ?_); refine Kd.R_lit (Kd.int .i64) _ 3 ?hg (N := 6) ?hd (xs := ([a0] : List Int)) (inner := [.int .i64 a0]) (ok := fun _ => True) (okp := fun _ => True) ?hr ?hp (fun _ hk => hk) trivial (Below.refl _ _) (Nat.le_refl _) (by simp) ?_; (case hd => rfl); (case hg => rfl); (case hr => first | (go_simp; done) | (go_simp; rfl)); (case hp => exact (Reps.one (show Kd.M (Kd.int .i64) _ _ _ a0 [.int .i64 a0] from rfl) (Reps.none _ _))); intro v173 w7 ho8 hb hg_ hnew_; clear hg_ hnew_; (first | rw [← Ny172.out] at ho8 | (simp only [Int.reduceToNat] at ho8; rw [← Ny172.out] at ho8)); have n0_ := Aside0.mk (Kd.R_lower ho8 (below_size zb)); have n1_ := Aside0.mk (below_step zb hb); clear HB; have HO174 := n0_; have HB := n1_; clear n0_ n1_; clear hb ho8; obtain ⟨Ao9, co9, eo9⟩ := Kd.R_slice HO174.out; subst eo9) | ((with_reducible refine gate_callee (f := 24) rfl ?_); refine goesL_ (some 7) rfl rfl Try.func24 (by kernel_rfl) rfl #[.slice Ao9 y172.length co9] rfl zl ?_; (with_reducible refine (utf_Encode.calls k _ _ y172 t175 _ ?side1 ?side2 A5.out).mono ?_); (case side1 => repeat (first | exact (Kd.R_reads' HO174.out).2.2 | (with_reducible refine Kd.C_alloc ?_ _) | (with_reducible refine Kd.C_drewN ?_ _) | (with_reducible refine Kd.C_drew ?_))); (case side2 => exact (Kd.R_reads' HO174.out).2.1); rintro e w10 ⟨rfl, hb⟩; refine ⟨_, rfl, ?_⟩; have n0_ := Aside0.mk (Kd.R_below (zk HO174.out) hb); have n1_ := Aside0.mk (below_step zb hb); clear HO174; clear HB; have HO174 := n0_; have HB := n1_; clear n0_ n1_; (try clear hb); (try clear hb2); (try clear hk); (try clear hi)))
  go_ret
  exact ⟨zr, zb⟩

/-! ### spoof_Strip: function 7 -/
def spoof_Strip.f (k : Nat) (a0 : ByteArray) : Option ByteArray := spoof_kept.f (fun v => spoof_Strip_1.f k v) a0
theorem spoof_Strip.mono : ∀ a0 k, LeO (spoof_Strip.f k a0) (spoof_Strip.f (k + 1) a0) := by
 intro a0 k
 exact spoof_kept.mono _ _ (fun v => spoof_Strip_1.mono v k) a0
set_option maxHeartbeats 8000000 in
set_option maxRecDepth 100000 in
theorem spoof_Strip.calls (k : Nat) (a0 : ByteArray) (r : ByteArray) (w : World) (h : spoof_Strip.f k a0 = some r) :
  Calls Try.prog 7 #[.string a0] w fun e w' => e = .returned (.string r) ∧ Below w.heap.size w w' := by
 have eg : ∀ args w, (callFunc 22 args).run Try.prog w = .ok (.enter 22 args) w := enters_of Try.func22 (by kernel_rfl) rfl
 have HC := Aside0.mk (spoof_kept.calls _ 22 eg (fun W v t ht => spoof_Strip_1.calls k v t W ht) a0 r w h)
 clear eg h
 go_enter Try.func7, Try.ntmps7
 go_wp2_with fail
 refine HC.out.mono ?_
 rintro e w1 ⟨rfl, hb1⟩
 clear HC
 go_wp2_with fail
 go_ret
 exact ⟨rfl, hb1⟩

-- NOT PRINTED: function 81 (num_laid_1)

end Go.Proofs.Ytpkmoonfnbcphaa.PAll
