-- Printed for this claim by the session's own program (wip/tool/hprint.py) over the kit's print; some functions' texts are the session's own.
import Derived.Test.YtddkmhkglmcihaaPAllx0
import Derived.Test.YtddkmhkglmcihaaPAllx2
import Derived.Test.YtddkmhkglmcihaaPAllx3
import Derived.Test.YtddkmhkglmcihaaPAllx5
import Derived.Test.YtddkmhkglmcihaaPAllx6
import Derived.Test.YtddkmhkglmcihaaPAllx7
namespace Go.Proofs.Ytddkmhkglmcihaa.PAll
open Go.RowKit Go.Proofs.YtddkmhkglmcihaaW.PrintWords Go.Proofs.YtddkmhkglmcihaaW.PrintLast Go.Proofs.YtddkmhkglmcihaaW.PrintMore
attribute [local go_sem] max2_int min2_int max_two min_two max_three min_three max_four min_four   -- for this text's walks alone
set_option linter.unusedVariables false
set_option linter.unusedSimpArgs false

/-! ### emit_Parse: function 15 -/
def emit_Parse.o (x : Int × Int × Int × ByteArray) : S31 := ⟨x.1, x.2.1, x.2.2.1, x.2.2.2⟩
def emit_Parse.l0 : Nat → ByteArray → List S31 → Option (List S31 × Int)
 | 0, _, _ => none
 | k + 1, s, out => if s.toList = [] then some (out, 0) else (emit_one.f k s).bind fun o => (emit_Text.f k [emit_Parse.o o]).bind fun t => (strings_CutPrefix.f s t.1).bind fun c => if t.2 = 0 then (if c.2 = true then (if out.length < 3518437208883 then emit_Parse.l0 k c.1 (out ++ [emit_Parse.o o]) else none) else some ([], 6)) else some ([], 6)
def emit_Parse.f (k : Nat) (a0 : ByteArray) : Option (List S31 × Int) := emit_Parse.l0 k a0 []
theorem emit_Parse.mono_l : ∀ k, (∀ y0 y1, LeO (emit_Parse.l0 k y0 y1) (emit_Parse.l0 (k + 1) y0 y1))
 | 0 => fun _ _ r h => by simp [emit_Parse.l0] at h
 | k + 1 => by
  have ih0 := emit_Parse.mono_l k
  intro y0 y1
  unfold emit_Parse.l0
  repeat' first
   | (with_reducible exact ih0 _ _)
   | (with_reducible exact emit_one.mono _ _)
   | (with_reducible exact emit_Text.mono _ _)
   | (with_reducible exact LeO.refl _)
   | (with_reducible exact LeO.none _)
   | (with_reducible refine LeO.ite ?_ ?_)
   | (with_reducible refine LeO.bind ?_ (fun _ => ?_))
theorem emit_Parse.mono : ∀ a0 k, LeO (emit_Parse.f k a0) (emit_Parse.f (k + 1) a0) := by
 intro a0 k
 exact emit_Parse.mono_l k _ _
theorem emit_Parse.blk {w w' : World} {b : Nat} {o : Obj} (h : w.heap[b]? = some o) (hb : Below w.heap.size w w') : w'.heap[b]? = some o := by
 rw [hb.block b (lt_of_block h)]
 exact h
theorem emit_Parse.start (w : World) (a b : Obj) : ((w.alloc a).alloc b).heap[w.heap.size]? = some a ∧ ((w.alloc a).alloc b).heap[w.heap.size + 1]? = some b := by
 refine ⟨emit_Parse.blk (heap_alloc_new w a) ((Below.refl _ _).alloc (Nat.le_refl _) _), ?_⟩
 have := heap_alloc_new (w.alloc a) b
 rw [World.size_alloc] at this
 exact this
theorem emit_Parse.one_reads (w : World) (o1 o2 o3 : Int) (o4 : ByteArray) : Kd.C k31 (w.alloc (.cells #[.int .i64 o1, .int .i64 o2, .int .i64 o3, .string o4] 31)) (some ⟨w.heap.size, 0, none⟩) [(⟨o1, o2, o3, o4⟩ : S31)].length [(⟨o1, o2, o3, o4⟩ : S31)] := by
 refine ⟨rfl, by simp, fun _ => ⟨_, rfl, fun j p hj => ?_⟩⟩
 match j, hj with
 | 0, hj =>
  obtain rfl : (⟨o1, o2, o3, o4⟩ : S31) = p := by simpa using hj
  refine ⟨[.int .i64 o1, .int .i64 o2, .int .i64 o3, .string o4], rfl, k31_mk _ _, fun i u hu => ?_⟩
  match i, hu with
  | 0, hu => simp at hu; subst hu; simp [Addr.add]
  | 1, hu => simp at hu; subst hu; simp [Addr.add]
  | 2, hu => simp at hu; subst hu; simp [Addr.add]
  | 3, hu => simp at hu; subst hu; simp [Addr.add]
theorem emit_Parse.R_stay {W : World} {base : Nat} {v : Value} {out : List S31} (h : Kd.R k31 31 W (base + 2) (fun _ => True) v out) (p : Addr) (hp : p.block < base + 2) (u : Value) : Kd.R k31 31 (W.setCell p u) (base + 2) (fun _ => True) v out :=
 Kd.R_mono (Kd.R_far (Kd.R_bound h) (fun k hk => by have := hk.2.1; omega) u) (fun _ _ => trivial)
theorem emit_Parse.obox {w1 w2 : World} {o1 o2 o3 : Int} {o4 : ByteArray} {a : Obj} (hb : Below ((w1.alloc (.cells #[.int .i64 o1, .int .i64 o2, .int .i64 o3, .string o4] 31)).alloc a).heap.size ((w1.alloc (.cells #[.int .i64 o1, .int .i64 o2, .int .i64 o3, .string o4] 31)).alloc a) w2) :
  w2.cell? ⟨w1.heap.size, 0, none⟩ = some (.int .i64 o1) ∧ w2.cell? ⟨w1.heap.size, 1, none⟩ = some (.int .i64 o2) ∧ w2.cell? ⟨w1.heap.size, 2, none⟩ = some (.int .i64 o3) ∧ w2.cell? ⟨w1.heap.size, 3, none⟩ = some (.string o4) := by
 refine ⟨?_, ?_, ?_, ?_⟩ <;> exact (hb.cell (by simp; try omega)).trans (by simp)
set_option maxHeartbeats 8000000 in
set_option maxRecDepth 100000 in
theorem emit_Parse.next_no1 (k : Nat) (w0 W : World) (base : Nat) (hB : Below base w0 W) (hbase : base + 2 ≤ W.heap.size) (s : ByteArray) (hs : W.heap[base]? = some (.cells #[.string s] 9 (0, 0)))
  (o1 o2 o3 : Int) (o4 t rest : ByteArray) (e : Int) (is : Bool) (h1 : emit_one.f k s = some (o1, o2, o3, o4)) (h2 : emit_Text.f k [⟨o1, o2, o3, o4⟩] = some (t, e)) (h3 : strings_CutPrefix.f s t = some (rest, is)) (hno : e ≠ 0) :
  Calls Try.prog 27 #[.pointer (some ⟨base, 0, none⟩), .pointer (some ⟨base + 1, 0, none⟩)] W fun e w' => e = .returned (.bool false) ∧ Below base w0 w' := by
 have hs0 := cell_of_one hs
 have HS := Aside0.mk hs
 have H1 := Aside0.mk (fun W => emit_one.calls k s o1 o2 o3 o4 W h1)
 have H3 := Aside0.mk (fun W => strings_CutPrefix.calls s t rest is W h3)
 have H2 := Aside0.mk (fun A c W => emit_Text.calls k A c [(⟨o1, o2, o3, o4⟩ : S31)] t e W)
 have H2' := Aside0.mk h2
 have HB := Aside0.mk hB
 have hu := Try.underlying31
 clear hs h1 h2 h3 hB
 have hn1 : (e != 0) = true := bne_iff_ne.mpr hno
 have hn2 : (e == 0) = false := beq_eq_false_iff_ne.mpr hno
 clear hno
 go_enter Try.func27, Try.ntmps27
 go_wp2_with fail
 refine (H1.out _).mono ?_
 rintro e1 w1 ⟨rfl, hb1⟩
 clear hs0 H1
 have hz1 : base + 2 ≤ w1.heap.size := Nat.le_trans hbase hb1.size
 have HS1 := Aside0.mk (emit_Parse.blk HS.out hb1)
 have HB1 : Aside0 (Below base w0 w1) := ⟨HB.out.trans (hb1.mono (by omega))⟩
 have hr := Aside0.mk (emit_Parse.one_reads (w1.alloc (.cells #[.int .i64 o1, .int .i64 o2, .int .i64 o3, .string o4] 31)) o1 o2 o3 o4)
 clear HB HS hb1
 go_wp2_with fail
 refine (H2.out _ _ _ (by have := hr.out; simp only [World.size_alloc] at this; exact this) (Nat.le_refl _) H2'.out).mono ?_
 rintro e2 w2 ⟨rfl, hb2⟩
 clear H2 H2' hr
 have hbb : Below w1.heap.size w1 w2 := ((((Below.refl _ w1).alloc (Nat.le_refl _) _).alloc (by simp) _)).trans (hb2.mono (by simp; omega))
 have hz2 : base + 2 ≤ w2.heap.size := by have := hbb.size; omega
 have hg := Aside0.mk (emit_Parse.obox hb2)
 have HS2 := Aside0.mk (emit_Parse.blk HS1.out hbb)
 have HB2 : Aside0 (Below base w0 w2) := ⟨HB1.out.trans (hbb.mono (by omega))⟩
 have hs2 := cell_of_one HS2.out
 clear HB1 HS1 hb2 hbb
 go_wp2_with fail
 refine (H3.out _).mono ?_
 rintro e3 w3 ⟨rfl, ⟨nd, rfl⟩⟩
 clear hs2 H3
 go_wp2
 go_ret
 exact ⟨rfl, pw_below_drewN HB2.out _⟩
set_option maxHeartbeats 8000000 in
set_option maxRecDepth 100000 in
theorem emit_Parse.next_no2 (k : Nat) (w0 W : World) (base : Nat) (hB : Below base w0 W) (hbase : base + 2 ≤ W.heap.size) (s : ByteArray) (hs : W.heap[base]? = some (.cells #[.string s] 9 (0, 0)))
  (o1 o2 o3 : Int) (o4 t rest : ByteArray) (e : Int) (is : Bool) (h1 : emit_one.f k s = some (o1, o2, o3, o4)) (h2 : emit_Text.f k [⟨o1, o2, o3, o4⟩] = some (t, e)) (h3 : strings_CutPrefix.f s t = some (rest, is)) (hno : is = false) :
  Calls Try.prog 27 #[.pointer (some ⟨base, 0, none⟩), .pointer (some ⟨base + 1, 0, none⟩)] W fun e w' => e = .returned (.bool false) ∧ Below base w0 w' := by
 have hs0 := cell_of_one hs
 have HS := Aside0.mk hs
 have H1 := Aside0.mk (fun W => emit_one.calls k s o1 o2 o3 o4 W h1)
 have H3 := Aside0.mk (fun W => strings_CutPrefix.calls s t rest is W h3)
 have H2 := Aside0.mk (fun A c W => emit_Text.calls k A c [(⟨o1, o2, o3, o4⟩ : S31)] t e W)
 have H2' := Aside0.mk h2
 have HB := Aside0.mk hB
 have hu := Try.underlying31
 clear hs h1 h2 h3 hB
 subst hno
 go_enter Try.func27, Try.ntmps27
 go_wp2_with fail
 refine (H1.out _).mono ?_
 rintro e1 w1 ⟨rfl, hb1⟩
 clear hs0 H1
 have hz1 : base + 2 ≤ w1.heap.size := Nat.le_trans hbase hb1.size
 have HS1 := Aside0.mk (emit_Parse.blk HS.out hb1)
 have HB1 : Aside0 (Below base w0 w1) := ⟨HB.out.trans (hb1.mono (by omega))⟩
 have hr := Aside0.mk (emit_Parse.one_reads (w1.alloc (.cells #[.int .i64 o1, .int .i64 o2, .int .i64 o3, .string o4] 31)) o1 o2 o3 o4)
 clear HB HS hb1
 go_wp2_with fail
 refine (H2.out _ _ _ (by have := hr.out; simp only [World.size_alloc] at this; exact this) (Nat.le_refl _) H2'.out).mono ?_
 rintro e2 w2 ⟨rfl, hb2⟩
 clear H2 H2' hr
 have hbb : Below w1.heap.size w1 w2 := ((((Below.refl _ w1).alloc (Nat.le_refl _) _).alloc (by simp) _)).trans (hb2.mono (by simp; omega))
 have hz2 : base + 2 ≤ w2.heap.size := by have := hbb.size; omega
 have hg := Aside0.mk (emit_Parse.obox hb2)
 have HS2 := Aside0.mk (emit_Parse.blk HS1.out hbb)
 have HB2 : Aside0 (Below base w0 w2) := ⟨HB1.out.trans (hbb.mono (by omega))⟩
 have hs2 := cell_of_one HS2.out
 clear HB1 HS1 hb2 hbb
 go_wp2_with fail
 refine (H3.out _).mono ?_
 rintro e3 w3 ⟨rfl, ⟨nd, rfl⟩⟩
 clear hs2 H3
 by_cases hn : e = 0
 ·subst hn
  go_wp2
  go_ret
  exact ⟨rfl, pw_below_drewN HB2.out _⟩
 ·have hn1 : (e != 0) = true := bne_iff_ne.mpr hn
  have hn2 : (e == 0) = false := beq_eq_false_iff_ne.mpr hn
  clear hn
  go_wp2
  go_ret
  exact ⟨rfl, pw_below_drewN HB2.out _⟩
set_option maxHeartbeats 8000000 in
set_option maxRecDepth 100000 in
theorem emit_Parse.next_yes (k : Nat) (w0 W : World) (base : Nat) (hB : Below base w0 W) (hbase : base + 2 ≤ W.heap.size) (s : ByteArray) (hs : W.heap[base]? = some (.cells #[.string s] 9 (0, 0)))
  (o1 o2 o3 : Int) (o4 t rest : ByteArray) (e : Int) (is : Bool) (h1 : emit_one.f k s = some (o1, o2, o3, o4)) (h2 : emit_Text.f k [⟨o1, o2, o3, o4⟩] = some (t, e)) (h3 : strings_CutPrefix.f s t = some (rest, is)) (v : Value) (out : List S31) (ho : W.heap[base + 1]? = some (.cells #[v] 22 (0, 0))) (hR : Kd.R k31 31 W (base + 2) (fun _ => True) v out) (hl : out.length < 3518437208883) (he : e = 0) (hi : is = true) :
  Calls Try.prog 27 #[.pointer (some ⟨base, 0, none⟩), .pointer (some ⟨base + 1, 0, none⟩)] W fun e w' => ∃ v' : Value, e = .returned (.bool true) ∧ w'.heap[base]? = some (.cells #[.string rest] 9 (0, 0)) ∧ w'.heap[base + 1]? = some (.cells #[v'] 22 (0, 0)) ∧ Kd.R k31 31 w' (base + 2) (fun _ => True) v' (out ++ [⟨o1, o2, o3, o4⟩]) ∧ Below base w0 w' ∧ base + 2 ≤ w'.heap.size := by
 have hs0 := cell_of_one hs
 have HS := Aside0.mk hs
 have H1 := Aside0.mk (fun W => emit_one.calls k s o1 o2 o3 o4 W h1)
 have H3 := Aside0.mk (fun W => strings_CutPrefix.calls s t rest is W h3)
 have H2 := Aside0.mk (fun A c W => emit_Text.calls k A c [(⟨o1, o2, o3, o4⟩ : S31)] t e W)
 have H2' := Aside0.mk h2
 have HB := Aside0.mk hB
 have hu := Try.underlying31
 clear hs h1 h2 h3 hB
 subst he
 subst hi
 have HO := Aside0.mk ho
 have HR := Aside0.mk hR
 have HL := Aside0.mk hl
 clear ho hR hl
 go_enter Try.func27, Try.ntmps27
 go_wp2_with fail
 refine (H1.out _).mono ?_
 rintro e1 w1 ⟨rfl, hb1⟩
 clear hs0 H1
 have hz1 : base + 2 ≤ w1.heap.size := Nat.le_trans hbase hb1.size
 have HS1 := Aside0.mk (emit_Parse.blk HS.out hb1)
 have HB1 : Aside0 (Below base w0 w1) := ⟨HB.out.trans (hb1.mono (by omega))⟩
 have HO1 := Aside0.mk (emit_Parse.blk HO.out hb1)
 have HR1 := Aside0.mk (Kd.R_below HR.out hb1)
 clear HO HR
 have hr := Aside0.mk (emit_Parse.one_reads (w1.alloc (.cells #[.int .i64 o1, .int .i64 o2, .int .i64 o3, .string o4] 31)) o1 o2 o3 o4)
 clear HB HS hb1
 go_wp2_with fail
 refine (H2.out _ _ _ (by have := hr.out; simp only [World.size_alloc] at this; exact this) (Nat.le_refl _) H2'.out).mono ?_
 rintro e2 w2 ⟨rfl, hb2⟩
 clear H2 H2' hr
 have hbb : Below w1.heap.size w1 w2 := ((((Below.refl _ w1).alloc (Nat.le_refl _) _).alloc (by simp) _)).trans (hb2.mono (by simp; omega))
 have hz2 : base + 2 ≤ w2.heap.size := by have := hbb.size; omega
 have hg := Aside0.mk (emit_Parse.obox hb2)
 have HS2 := Aside0.mk (emit_Parse.blk HS1.out hbb)
 have HB2 : Aside0 (Below base w0 w2) := ⟨HB1.out.trans (hbb.mono (by omega))⟩
 have HO2 := Aside0.mk (emit_Parse.blk HO1.out hbb)
 have HR2 := Aside0.mk (Kd.R_below HR1.out hbb)
 clear HO1 HR1
 have hs2 := cell_of_one HS2.out
 clear HB1 HS1 hb2 hbb
 go_wp2_with fail
 refine (H3.out _).mono ?_
 rintro e3 w3 ⟨rfl, ⟨nd, rfl⟩⟩
 clear hs2 H3
 have ho2 := cell_of_one HO2.out
 have hof := free_of_one HO2.out
 have hsf := free_of_one HS2.out
 obtain ⟨hg0, hg1, hg2, hg3⟩ := hg.out
 clear hg
 have hz2' := Aside0.mk hz2
 clear hz1 hz2 hbase
 obtain ⟨y0, hy0⟩ : ∃ y_ : List S31, y_ = (out ++ [⟨o1, o2, o3, o4⟩]) := ⟨_, rfl⟩
 have Ny := Aside0.mk hy0
 clear hy0
 go_wp2_with ((with_reducible refine gate_builtin (b := .append) (xs := #[.tmp 28, .tmp 30]) rfl ?_); at_builtin; refine Kd.R_append k31 (w0 := w2) (base + 2) rfl (.tmp 28) (.tmp 30) 22 31 (.agg #[(.int .i64 0), (.int .i64 0), (.int .i64 0), (.string ⟨#[]⟩)]) 40 rfl Try.underlying22 info31 rfl (by decide) (by omega) v out (⟨o1, o2, o3, o4⟩ : S31) [.int .i64 o1, .int .i64 o2, .int .i64 o3, .string o4] (fun _ => True) (fun _ => False) rfl rfl ?aP (fun _ hk => hk.elim) ?aF ?aO ?aB ?aS ?aL ?_; (case aP => exact k31_mkM _ _ _ _); (case aB => exact pw_below_drewN (Below.refl _ _) _); (case aF => exact (fun _ _ => trivial)); (case aO => exact (zk HR2.out)); (case aS => exact hz2'.out); (case aL => have := HL.out; omega); intro v7 w7 ho hb hgr hat; rw [← Ny.out] at ho; obtain ⟨A7, c7, rfl⟩ := Kd.R_slice ho; have HO7 := Aside0.mk ((hb.block (base + 1) (by omega)).trans HO2.out); have HS7 := Aside0.mk ((hb.block base (by omega)).trans HS2.out); have hz7 := Aside0.mk (Nat.le_trans hz2'.out hb.size); have HB7 := Aside0.mk (show Below base w0 w7 from HB2.out.trans ⟨hb.os, hb.tape, hb.output, hb.size, fun i hi => hb.block i (by omega)⟩); have HR7 := Aside0.mk ho; clear ho hb hgr hat HO2 HS2 HR2 HB2 hg0 hg1 hg2 hg3 ho2 hof hsf; have ho7 := cell_of_one HO7.out; have hof7 := free_of_one HO7.out; have hs7 := cell_of_one HS7.out; have hsf7 := free_of_one HS7.out)
 go_ret
 refine ⟨.slice A7 y0.length c7, rfl, ?_, ?_, ?_, ?_, ?_⟩
 ·exact one_setCell ((Below.heap_setCell _ _ _ _ (by simp)).trans HS7.out)
 ·exact (Below.heap_setCell _ _ _ _ (by simp)).trans (one_setCell HO7.out)
 ·rw [← Ny.out]; exact emit_Parse.R_stay (emit_Parse.R_stay HR7.out _ (by simp) _) _ (by simp) _
 ·exact (HB7.out.setCell (by simp) _).setCell (by simp) _
 ·have := hz7.out
  simpa using this
set_option maxHeartbeats 8000000 in
set_option maxRecDepth 100000 in
theorem emit_Parse.calls (k : Nat) (a0 : ByteArray) (r1 : List S31) (r2 : Int) (w : World) (h : emit_Parse.f k a0 = some (r1, r2)) :
  Calls Try.prog 15 #[.string a0] w fun e w' => ∃ v0_ : Value, e = .returned (.tuple #[v0_, .int .i64 r2]) ∧ Kd.R k31 31 w' w.heap.size (fun _ => True) v0_ r1 ∧ Below w.heap.size w w' := by
 have H0 := Aside0.mk h
 clear h
 go_enter Try.func15, Try.ntmps15
 go_wp2
 go_loopg [] k (fun kq wr => ∃ (s : ByteArray) (out : List S31) (v : Value), Aside0 (wr.heap[w.heap.size]? = some (.cells #[.string s] 9 (0, 0))) ∧ Aside0 (wr.heap[w.heap.size + 1]? = some (.cells #[v] 22 (0, 0))) ∧ Aside0 (Kd.R k31 31 wr (w.heap.size + 2) (fun _ => True) v out) ∧ Aside0 (Below w.heap.size w wr) ∧ Aside0 (w.heap.size + 2 ≤ wr.heap.size) ∧ Aside0 (emit_Parse.l0 kq s out = some (r1, r2)))
 case atStart => exact ⟨a0, [], .slice none 0 0, ⟨(emit_Parse.start _ _ _).1⟩, ⟨(emit_Parse.start _ _ _).2⟩, ⟨Kd.R_nil _ _ _ _ _⟩, ⟨((Below.refl _ w).alloc (Nat.le_refl _) _).alloc (by simp) _⟩, ⟨by simp⟩, H0⟩
 case round =>
  clear H0
  obtain ⟨s, out, v, HS, HO, HR, HB, HZ, HA⟩ := hrel
  cases gk with
  | zero => exact absurd HA.out (by simp [emit_Parse.l0])
  | succ k1 =>
  have h := HA.out
  clear HA
  simp only [emit_Parse.l0] at h
  have hs0 := cell_of_one HS.out
  have hsz := Aside0.mk HZ.out
  by_cases c : s.toList = []
  ·rw [if_pos c] at h
   obtain ⟨rfl, rfl⟩ := Prod.mk.inj (Option.some.inj h)
   clear h
   obtain ⟨A, c1, rfl⟩ := Kd.R_slice HR.out
   have ho0 := cell_of_one HO.out
   go_wp2
   go_ret2
   exact ⟨.slice A out.length c1, rfl, Kd.R_lower HR.out (by omega), HB.out⟩
  ·rw [if_neg c] at h
   obtain ⟨⟨o1, o2, o3, o4⟩, h1, h⟩ := Option.bind_eq_some_iff.mp h
   obtain ⟨⟨t, e⟩, h2, h⟩ := Option.bind_eq_some_iff.mp h
   obtain ⟨⟨rest, is⟩, h3, h⟩ := Option.bind_eq_some_iff.mp h
   simp only [emit_Parse.o] at h2 h
   have hc2 : (!s.toList.isEmpty) = true := by
    cases hq : s.toList with
    | nil => exact absurd hq c
    | cons x xs => rfl
   by_cases he : e = 0
   ·rw [if_pos he] at h
    by_cases hi : is = true
    ·rw [if_pos hi] at h
     by_cases hl : out.length < 3518437208883
     ·rw [if_pos hl] at h
      have HA := Aside0.mk h
      have HC := Aside0.mk (emit_Parse.next_yes k1 w wr w.heap.size HB.out HZ.out s HS.out o1 o2 o3 o4 t rest e is h1 h2 h3 v out HO.out HR.out hl he hi)
      clear h h1 h2 h3 he hi hl HS HO HR HB HZ hsz
      go_wp2_with fail
      refine HC.out.mono ?_
      rintro e' w2 ⟨v', rfl, g1, g2, g3, g4, g5⟩
      have G1 := Aside0.mk g1
      have G2 := Aside0.mk g2
      have G3 := Aside0.mk g3
      have G4 := Aside0.mk g4
      have G5 := Aside0.mk g5
      clear HC g1 g2 g3 g4 g5 hs0
      go_wp2_with fail
      go_roundg k1
      case measure => omega
      case rel => exact ⟨rest, _, v', G1, G2, G3, G4, G5, HA⟩
     ·rw [if_neg hl] at h; cases h
    ·rw [if_neg hi] at h
     obtain ⟨rfl, rfl⟩ := Prod.mk.inj (Option.some.inj h)
     have HC := Aside0.mk (emit_Parse.next_no2 k1 w wr w.heap.size HB.out HZ.out s HS.out o1 o2 o3 o4 t rest e is h1 h2 h3 (by simpa using hi))
     clear h h1 h2 h3 he hi HS HO HR HB HZ hsz
     go_wp2_with fail
     refine HC.out.mono ?_
     rintro e' w2 ⟨rfl, g4⟩
     have G4 := Aside0.mk g4
     clear HC g4 hs0
     go_wp2_with fail
     go_ret2
     exact ⟨.slice none 0 0, rfl, Kd.R_nil _ _ _ _ _, G4.out⟩
   ·rw [if_neg he] at h
    obtain ⟨rfl, rfl⟩ := Prod.mk.inj (Option.some.inj h)
    have HC := Aside0.mk (emit_Parse.next_no1 k1 w wr w.heap.size HB.out HZ.out s HS.out o1 o2 o3 o4 t rest e is h1 h2 h3 he)
    clear h h1 h2 h3 he HS HO HR HB HZ hsz
    go_wp2_with fail
    refine HC.out.mono ?_
    rintro e' w2 ⟨rfl, g4⟩
    have G4 := Aside0.mk g4
    clear HC g4 hs0
    go_wp2_with fail
    go_ret2
    exact ⟨.slice none 0 0, rfl, Kd.R_nil _ _ _ _ _, G4.out⟩

/-! ### emit_Skeleton: function 18 -/
mutual
def emit_Skeleton.l0 : Nat → List (S31) → Bool → List (S31) → Int → Int → Option ((List (S31)))
 | 0, _, _, _, _, _ => none
 | k + 1, x3, x4, x10, x11, x12 => if x12 < x11 then (if 0 ≤ x12 then (if x12 < (x10.length : Int) then (if ((rd_T31 x10 x12).f0) = 0 then ((utf_Decode.f ((rd_T31 x10 x12).f3)).bind fun t178 => (emit_Skeleton.l1 k x3 x4 0 x10 x11 x12 t178 (t178.length : Int) 0)) else (if x3.length < 3518437208883 then (emit_Skeleton.l0 k (x3 ++ [(⟨(rd_T31 x10 x12).f0, (rd_T31 x10 x12).f1, (rd_T31 x10 x12).f2, (rd_T31 x10 x12).f3⟩ : S31)]) false x10 x11 (wrap64 (x12 + 1))) else (none))) else (none)) else (none)) else (some x3)
def emit_Skeleton.l1 : Nat → List (S31) → Bool → Int → List (S31) → Int → Int → List Int → Int → Int → Option ((List (S31)))
 | 0, _, _, _, _, _, _, _, _, _ => none
 | k + 1, x3, x4, x7, x10, x11, x12, x25, x26, x27 => if x27 < x26 then (if 0 ≤ x27 then (if x27 < (x25.length : Int) then ((class_Width.f k (rd x25 x27)).bind fun t182 => (emit_Skeleton.l1 k x3 x4 (wrap64 (x7 + t182)) x10 x11 x12 x25 x26 (wrap64 (x27 + 1)))) else (none)) else (none)) else (if x7 > 0 then (emit_Skeleton.j2 k x3 x4 x7 x10 x11 x12 (!x4)) else (emit_Skeleton.j2 k x3 x4 x7 x10 x11 x12 false))
def emit_Skeleton.j2 : Nat → List (S31) → Bool → Int → List (S31) → Int → Int → Bool → Option ((List (S31)))
 | 0, _, _, _, _, _, _, _ => none
 | k + 1, x3, x4, x7, x10, x11, x12, x41 => if x41 = true then (if x3.length < 3518437208883 then ((some (x3 ++ [(⟨0, 0, 0, (⟨#[]⟩ : ByteArray)⟩ : S31)] : List (S31))).bind fun y183 => (if x7 > 0 then (if 0 ≤ (wrap64 ((y183.length : Int) - 1)) then (if (wrap64 ((y183.length : Int) - 1)) < (y183.length : Int) then (emit_Skeleton.l0 k (y183.set ((wrap64 ((y183.length : Int) - 1)) : Int).toNat (⟨(rd_T31 y183 (wrap64 ((y183.length : Int) - 1))).f0, wrap64 (((rd_T31 y183 (wrap64 ((y183.length : Int) - 1))).f1) + x7), (rd_T31 y183 (wrap64 ((y183.length : Int) - 1))).f2, (rd_T31 y183 (wrap64 ((y183.length : Int) - 1))).f3⟩ : S31)) true x10 x11 (wrap64 (x12 + 1))) else (none)) else (none)) else (emit_Skeleton.l0 k y183 true x10 x11 (wrap64 (x12 + 1))))) else (none)) else (if x7 > 0 then (if 0 ≤ (wrap64 ((x3.length : Int) - 1)) then (if (wrap64 ((x3.length : Int) - 1)) < (x3.length : Int) then (emit_Skeleton.l0 k (x3.set ((wrap64 ((x3.length : Int) - 1)) : Int).toNat (⟨(rd_T31 x3 (wrap64 ((x3.length : Int) - 1))).f0, wrap64 (((rd_T31 x3 (wrap64 ((x3.length : Int) - 1))).f1) + x7), (rd_T31 x3 (wrap64 ((x3.length : Int) - 1))).f2, (rd_T31 x3 (wrap64 ((x3.length : Int) - 1))).f3⟩ : S31)) x4 x10 x11 (wrap64 (x12 + 1))) else (none)) else (none)) else (emit_Skeleton.l0 k x3 x4 x10 x11 (wrap64 (x12 + 1))))
end
def emit_Skeleton.f (k : Nat) (l0 : List (S31)) : Option ((List (S31))) := emit_Skeleton.l0 k ([] : List (S31)) false l0 (l0.length : Int) 0
theorem emit_Skeleton.mono_l : ∀ k, (∀ y0 y1 y2 y3 y4, LeO (emit_Skeleton.l0 k y0 y1 y2 y3 y4) (emit_Skeleton.l0 (k + 1) y0 y1 y2 y3 y4)) ∧ (∀ y0 y1 y2 y3 y4 y5 y6 y7 y8, LeO (emit_Skeleton.l1 k y0 y1 y2 y3 y4 y5 y6 y7 y8) (emit_Skeleton.l1 (k + 1) y0 y1 y2 y3 y4 y5 y6 y7 y8)) ∧ (∀ y0 y1 y2 y3 y4 y5 y6, LeO (emit_Skeleton.j2 k y0 y1 y2 y3 y4 y5 y6) (emit_Skeleton.j2 (k + 1) y0 y1 y2 y3 y4 y5 y6))
 | 0 => ⟨fun _ _ _ _ _ r h => by simp [emit_Skeleton.l0] at h, fun _ _ _ _ _ _ _ _ _ r h => by simp [emit_Skeleton.l1] at h, fun _ _ _ _ _ _ _ r h => by simp [emit_Skeleton.j2] at h⟩
 | k + 1 => by
  obtain ⟨ih0, ih1, ih2⟩ := emit_Skeleton.mono_l k
  refine ⟨?_, ?_, ?_⟩
  ·intro y0 y1 y2 y3 y4
   unfold emit_Skeleton.l0
   repeat' first
   | (with_reducible exact ih0 _ _ _ _ _)
   | (with_reducible exact ih1 _ _ _ _ _ _ _ _ _)
   | (with_reducible exact ih2 _ _ _ _ _ _ _)
   | (with_reducible exact class_Width.mono _ _)
   | (with_reducible exact LeO.refl _)
   | (with_reducible exact LeO.none _)
   | (with_reducible refine LeO.ite ?_ ?_)
   | (with_reducible refine LeO.bind ?_ (fun _ => ?_))
   | exact ih0 _ _ _ _ _
   | exact ih1 _ _ _ _ _ _ _ _ _
   | exact ih2 _ _ _ _ _ _ _
   | exact class_Width.mono _ _
   | exact LeO.none _
   | refine LeO.ite ?_ ?_
   | refine LeO.bind ?_ (fun _ => ?_)
  ·intro y0 y1 y2 y3 y4 y5 y6 y7 y8
   unfold emit_Skeleton.l1
   repeat' first
   | (with_reducible exact ih0 _ _ _ _ _)
   | (with_reducible exact ih1 _ _ _ _ _ _ _ _ _)
   | (with_reducible exact ih2 _ _ _ _ _ _ _)
   | (with_reducible exact class_Width.mono _ _)
   | (with_reducible exact LeO.refl _)
   | (with_reducible exact LeO.none _)
   | (with_reducible refine LeO.ite ?_ ?_)
   | (with_reducible refine LeO.bind ?_ (fun _ => ?_))
   | exact ih0 _ _ _ _ _
   | exact ih1 _ _ _ _ _ _ _ _ _
   | exact ih2 _ _ _ _ _ _ _
   | exact class_Width.mono _ _
   | exact LeO.none _
   | refine LeO.ite ?_ ?_
   | refine LeO.bind ?_ (fun _ => ?_)
  ·intro y0 y1 y2 y3 y4 y5 y6
   unfold emit_Skeleton.j2
   repeat' first
   | (with_reducible exact ih0 _ _ _ _ _)
   | (with_reducible exact ih1 _ _ _ _ _ _ _ _ _)
   | (with_reducible exact ih2 _ _ _ _ _ _ _)
   | (with_reducible exact class_Width.mono _ _)
   | (with_reducible exact LeO.refl _)
   | (with_reducible exact LeO.none _)
   | (with_reducible refine LeO.ite ?_ ?_)
   | (with_reducible refine LeO.bind ?_ (fun _ => ?_))
   | exact ih0 _ _ _ _ _
   | exact ih1 _ _ _ _ _ _ _ _ _
   | exact ih2 _ _ _ _ _ _ _
   | exact class_Width.mono _ _
   | exact LeO.none _
   | refine LeO.ite ?_ ?_
   | refine LeO.bind ?_ (fun _ => ?_)
theorem emit_Skeleton.mono : ∀ a0 k, LeO (emit_Skeleton.f k a0) (emit_Skeleton.f (k + 1) a0) := by
 intro a0 k
 obtain ⟨ih0, ih1, ih2⟩ := emit_Skeleton.mono_l k
 unfold emit_Skeleton.f
 repeat' first
   | (with_reducible exact ih0 _ _ _ _ _)
   | (with_reducible exact ih1 _ _ _ _ _ _ _ _ _)
   | (with_reducible exact ih2 _ _ _ _ _ _ _)
   | (with_reducible exact class_Width.mono _ _)
   | (with_reducible exact LeO.refl _)
   | (with_reducible exact LeO.none _)
   | (with_reducible refine LeO.ite ?_ ?_)
   | (with_reducible refine LeO.bind ?_ (fun _ => ?_))
   | exact ih0 _ _ _ _ _
   | exact ih1 _ _ _ _ _ _ _ _ _
   | exact ih2 _ _ _ _ _ _ _
   | exact class_Width.mono _ _
   | exact LeO.none _
   | refine LeO.ite ?_ ?_
   | refine LeO.bind ?_ (fun _ => ?_)
set_option maxHeartbeats 8000000 in
set_option maxRecDepth 100000 in
theorem emit_Skeleton.calls (k : Nat) (A0 : Option Addr) (c0 : Nat) (l0 : List (S31)) (r : List (S31)) (w : World) (hr0 : Kd.C k31 w A0 l0.length l0) (hc0 : l0.length ≤ c0) (h : emit_Skeleton.f k l0 = some r) :
  Calls Try.prog 18 #[.slice A0 l0.length c0] w fun e w' => ∃ v0_ : Value, e = .returned (v0_) ∧ Kd.R k31 31 w' w.heap.size (fun _ => True) v0_ r ∧ Below w.heap.size w w' := by
 have hu31 := Try.underlying31
 have HR0 := Aside0.mk hr0
 have HC0 := Aside0.mk hc0
 clear hr0 hc0
 have HB := Aside0.mk (Below.refl w.heap.size w)
 have H : (emit_Skeleton.l0 k ([] : List (S31)) false l0 (l0.length : Int) 0) = some r := h
 clear h
 have H' := Aside0.mk H
 clear H
 go_enter Try.func18, Try.ntmps18
 go_wp2
 go_loopg [3, 4, 12] k (fun kq v3 v4 v12 w' => ∃ (x3_1 : List (S31)) (x4_1 : Bool) (x12_1 : Int), v4 = .bool x4_1 ∧ v12 = .int .i64 x12_1 ∧ Aside0 (emit_Skeleton.l0 kq x3_1 x4_1 l0 (l0.length : Int) x12_1 = some r) ∧ Aside0 (kq ≤ k) ∧ Aside0 (Kd.R k31 31 w' w.heap.size (fun _ => True) v3 x3_1) ∧ Aside0 (Below w.heap.size w w'))
 case atStart => exact ⟨(([] : List (S31))), (false), (0), (by first | rfl | (simp; done) | (simp [*]; done)), (by first | rfl | (simp; done) | (simp [*]; done)), H', ⟨Nat.le_refl _⟩, ⟨by first | exact Kd.R_nil _ _ _ _ _ | exact Kd.N_nil _ _ _ _ _ | exact Kd.V_nil _ _ _ _ _ | exact Kd.Q_nil _ _ _ _ _ | exact Kd.S_nil _ _ _ _ _⟩, ⟨by repeat (first | (with_reducible first | exact HB.out | apply below_alloc | apply pw_below_drewN | apply below_drew1) | exact HB.out)⟩⟩
 case round =>
  clear H'
  try clear c1
  obtain ⟨x3_1, x4_1, x12_1, rfl, rfl, HA, HK1, HO_3, HB⟩ := hrel
  cases gk with
  | zero => exact absurd HA.out (by simp [emit_Skeleton.l0])
  | succ k1 =>
   have H := HA.out
   clear HA
   simp only [emit_Skeleton.l0] at H
   by_cases c2 : x12_1 < (l0.length : Int)
   ·rw [if_pos c2] at H
    have c2b0 : decide (x12_1 < (l0.length : Int)) = true := decide_eq_true c2
    clear c2
    by_cases c3 : 0 ≤ x12_1
    ·rw [if_pos c3] at H
     have c3b0 : decide (0 ≤ x12_1) = true := decide_eq_true c3
     clear c3
     by_cases c4 : x12_1 < (l0.length : Int)
     ·rw [if_pos c4] at H
      have c4b0 : decide (x12_1 < (l0.length : Int)) = true := decide_eq_true c4
      clear c4
      by_cases c5 : ((rd_T31 l0 x12_1).f0) = 0
      ·rw [if_pos c5] at H
       have c5b0 : (((rd_T31 l0 x12_1).f0) == 0) = true := beq_iff_eq.mpr c5
       have c5b1 : (((rd_T31 l0 x12_1).f0) != 0) = false := bne_eq_false_iff_eq.mpr c5
       clear c5
       replace H := Option.bind_eq_some_iff.mp H
       obtain ⟨t178, A60, H⟩ := H
       replace H : (emit_Skeleton.l1 k1 x3_1 x4_1 0 l0 (l0.length : Int) x12_1 t178 (t178.length : Int) 0) = some r := H
       have A6 := Aside0.mk A60
       clear A60
       have H' := Aside0.mk H
       clear H
       have p173 : 0 ≤ (x12_1 : Int) := of_decide_eq_true za
       have q173 : x12_1 < (l0.length : Int) := of_decide_eq_true za
       obtain ⟨ad173, e173, hx173_0, hx173_1, hx173_2, hx173_3⟩ := at_T31 HR0.out x12_1 p173 q173
       cases e173
       replace hx173_0 := (HB.out.cell (World.block_lt_of_cell? w _ hx173_0)).trans hx173_0
       replace hx173_1 := (HB.out.cell (World.block_lt_of_cell? w _ hx173_1)).trans hx173_1
       replace hx173_2 := (HB.out.cell (World.block_lt_of_cell? w _ hx173_2)).trans hx173_2
       replace hx173_3 := (HB.out.cell (World.block_lt_of_cell? w _ hx173_3)).trans hx173_3
       replace p173 := eq_true p173
       replace q173 := eq_true q173
       go_wp2_with (first | ((with_reducible refine gate_dst (N := 6) rfl ?_); refine box_event ?hg (N := 6) ?hd (cs := #[.int .i64 0, .int .i64 0, .int .i64 0, .string (⟨#[]⟩ : ByteArray)]) (t := 31) ?hr ?_; (case hd => rfl); (case hg => rfl); (case hr => first | (go_simp; done) | (go_simp; rfl)); intro gb174 hg w7 hbox hb; have n0_ := Aside0.mk (Kd.R_below (Kd.R_elderB (zk HO_3.out) gb174 (Nat.le_of_eq hg.symm)) hb); have n1_ := Aside0.mk (below_step zb hb); have n2_ := Aside0.mk (hbox); have n3_ := Aside0.mk ((by rw [hg]; exact (below_size zb) : w.heap.size ≤ gb174)); have n4_ := Aside0.mk ((by rw [hg]; exact (below_size zb) : w.heap.size ≤ gb174)); clear HO_3; clear HB; have HO_3 := n0_; have HB := n1_; have BK174 := n2_; have GW174 := n3_; have GE174 := n4_; clear n0_ n1_ n2_ n3_ n4_; clear hb hbox hg; have hcz8_0 : w7.cell? ⟨gb174, 0, none⟩ = some (.int .i64 0) := (blk_cell BK174.out 0).trans rfl; have hcz8_1 : w7.cell? ⟨gb174, 1, none⟩ = some (.int .i64 0) := (blk_cell BK174.out 1).trans rfl; have hcz8_2 : w7.cell? ⟨gb174, 2, none⟩ = some (.int .i64 0) := (blk_cell BK174.out 2).trans rfl; have hcz8_3 : w7.cell? ⟨gb174, 3, none⟩ = some (.string (⟨#[]⟩ : ByteArray)) := (blk_cell BK174.out 3).trans rfl; have hfz8_0 := blk_frozen BK174.out 0; have hfz8_1 := blk_frozen BK174.out 1; have hfz8_2 := blk_frozen BK174.out 2; have hfz8_3 := blk_frozen BK174.out 3) | ((with_reducible refine gate_callee (f := 31) rfl ?_); refine goesL_ (some 25) rfl rfl Try.func31 (by kernel_rfl) rfl #[.string ((rd_T31 l0 x12_1).f3)] rfl zl ?_; (with_reducible refine (utf_Decode.calls ((rd_T31 l0 x12_1).f3) t178 _ A6.out).mono ?_); rintro e w9 ⟨v179, rfl, ho0, hb⟩; refine ⟨_, rfl, ?_⟩; have n0_ := Aside0.mk (Kd.R_below (by (with_reducible repeat (first | apply Kd.R_alloc | apply Kd.R_drewN | apply Kd.R_drew)); exact (Kd.R_mono (Kd.R_far (p := ⟨gb174, 3, none⟩) (Kd.R_far (p := ⟨gb174, 2, none⟩) (Kd.R_far (p := ⟨gb174, 1, none⟩) (Kd.R_far (p := ⟨gb174, 0, none⟩) (Kd.R_mono HO_3.out (fun k_ hk => (⟨hk, hk.2⟩ : _ ∧ k_ ≠ gb174))) (fun _ hk => hk.2) (.int .i64 ((rd_T31 l0 x12_1).f0))) (fun _ hk => hk.2) (.int .i64 ((rd_T31 l0 x12_1).f1))) (fun _ hk => hk.2) (.int .i64 ((rd_T31 l0 x12_1).f2))) (fun _ hk => hk.2) (.string ((rd_T31 l0 x12_1).f3))) (fun _ h_ => h_.1))) hb); have n1_ := Aside0.mk (Kd.R_lower ho0 (below_size (by repeat (first | (with_reducible first | exact HB.out | apply below_alloc | apply pw_below_drewN | apply below_drew1 | refine below_set ?_ GE174.out) | exact HB.out)))); have n2_ := Aside0.mk (blk_below (g := gb174) (o := .cells #[.int .i64 ((rd_T31 l0 x12_1).f0), .int .i64 ((rd_T31 l0 x12_1).f1), .int .i64 ((rd_T31 l0 x12_1).f2), .string ((rd_T31 l0 x12_1).f3)] 31 (0, 0)) (by (with_reducible repeat (first | refine blk_drewN ?_ _ | refine blk_drew ?_ | refine blk_alloc ?_ _)); refine blk_put (cs := #[.int .i64 ((rd_T31 l0 x12_1).f0), .int .i64 ((rd_T31 l0 x12_1).f1), .int .i64 ((rd_T31 l0 x12_1).f2), .string (⟨#[]⟩ : ByteArray)]) ?_ 3 _ rfl; (with_reducible repeat (first | refine blk_drewN ?_ _ | refine blk_drew ?_ | refine blk_alloc ?_ _)); refine blk_put (cs := #[.int .i64 ((rd_T31 l0 x12_1).f0), .int .i64 ((rd_T31 l0 x12_1).f1), .int .i64 0, .string (⟨#[]⟩ : ByteArray)]) ?_ 2 _ rfl; (with_reducible repeat (first | refine blk_drewN ?_ _ | refine blk_drew ?_ | refine blk_alloc ?_ _)); refine blk_put (cs := #[.int .i64 ((rd_T31 l0 x12_1).f0), .int .i64 0, .int .i64 0, .string (⟨#[]⟩ : ByteArray)]) ?_ 1 _ rfl; (with_reducible repeat (first | refine blk_drewN ?_ _ | refine blk_drew ?_ | refine blk_alloc ?_ _)); refine blk_put (cs := #[.int .i64 0, .int .i64 0, .int .i64 0, .string (⟨#[]⟩ : ByteArray)]) ?_ 0 _ rfl; (with_reducible repeat (first | refine blk_drewN ?_ _ | refine blk_drew ?_ | refine blk_alloc ?_ _)); exact BK174.out) hb); have n3_ := Aside0.mk (below_step (by repeat (first | (with_reducible first | exact HB.out | apply below_alloc | apply pw_below_drewN | apply below_drew1 | refine below_set ?_ GE174.out) | exact HB.out)) hb); clear HO_3; clear BK174; clear HB; have HO_3 := n0_; have HO180 := n1_; have BK174 := n2_; have HB := n3_; clear n0_ n1_ n2_ n3_; (try clear hb); (try clear hb2); (try clear hk); (try clear hi); (try clear ho0); obtain ⟨Ao10, co10, eo10⟩ := Kd.R_slice HO180.out; subst eo10))
       go_loopg [7, 27] k1 (fun kq v7 v27 w' => ∃ (x7_2 : Int) (x27_2 : Int), v7 = .int .i64 x7_2 ∧ v27 = .int .i64 x27_2 ∧ Aside0 (emit_Skeleton.l1 kq x3_1 x4_1 x7_2 l0 (l0.length : Int) x12_1 t178 (t178.length : Int) x27_2 = some r) ∧ Aside0 (kq ≤ k1) ∧ Aside0 (Kd.R k31 31 w' w.heap.size (fun k_ => k_ ≠ gb174) u3 x3_1) ∧ Aside0 (Kd.R (Kd.int .i64) 3 w' w.heap.size (fun _ => True) (.slice Ao10 t178.length co10) t178) ∧ Aside0 (w'.heap[gb174]? = some (.cells #[.int .i64 ((rd_T31 l0 x12_1).f0), .int .i64 ((rd_T31 l0 x12_1).f1), .int .i64 ((rd_T31 l0 x12_1).f2), .string ((rd_T31 l0 x12_1).f3)] 31 (0, 0))) ∧ Aside0 (Below w.heap.size w w'))
       case atStart => exact ⟨(0), (0), (by first | rfl | (simp; done) | (simp [*]; done)), (by first | rfl | (simp; done) | (simp [*]; done)), H', ⟨Nat.le_refl _⟩, ⟨by (with_reducible repeat (first | apply Kd.R_alloc | apply Kd.R_drewN | apply Kd.R_drew)); exact Kd.R_mono HO_3.out (fun _ hk => hk.2)⟩, ⟨by (with_reducible repeat (first | apply Kd.R_alloc | apply Kd.R_drewN | apply Kd.R_drew)); exact HO180.out⟩, ⟨by (with_reducible repeat (first | refine blk_drewN ?_ _ | refine blk_drew ?_ | refine blk_alloc ?_ _)); exact BK174.out⟩, ⟨by repeat (first | (with_reducible first | exact HB.out | apply below_alloc | apply pw_below_drewN | apply below_drew1 | refine below_set ?_ GE174.out) | exact HB.out)⟩⟩
       case round =>
        clear H'
        try clear c1
        try clear p1
        try clear q1
        try clear hx1
        try clear c2
        try clear c2b0
        try clear p2
        try clear c3
        try clear c3b0
        try clear c4
        try clear c4b0
        try clear c5
        try clear c5b0
        try clear c5b1
        try clear hcz8_0
        try clear hcz8_1
        try clear hcz8_2
        try clear hcz8_3
        try clear hfz8_0
        try clear hfz8_1
        try clear hfz8_2
        try clear hfz8_3
        try clear hx173_0
        try clear hx173_1
        try clear hx173_2
        try clear hx173_3
        try clear p173
        try clear q173
        obtain ⟨x7_2, x27_2, rfl, rfl, HA, HK2, HO_3, HO_25, BK174, HB⟩ := hrel
        cases gk with
        | zero => exact absurd HA.out (by simp [emit_Skeleton.l1])
        | succ k2 =>
         have H := HA.out
         clear HA
         simp only [emit_Skeleton.l1] at H
         by_cases c11 : x27_2 < (t178.length : Int)
         ·rw [if_pos c11] at H
          have c11b0 : decide (x27_2 < (t178.length : Int)) = true := decide_eq_true c11
          clear c11
          by_cases c12 : 0 ≤ x27_2
          ·rw [if_pos c12] at H
           have c12b0 : decide (0 ≤ x27_2) = true := decide_eq_true c12
           clear c12
           by_cases c13 : x27_2 < (t178.length : Int)
           ·rw [if_pos c13] at H
            have c13b0 : decide (x27_2 < (t178.length : Int)) = true := decide_eq_true c13
            clear c13
            replace H := Option.bind_eq_some_iff.mp H
            obtain ⟨t182, A140, H⟩ := H
            replace H : (emit_Skeleton.l1 k2 x3_1 x4_1 (wrap64 (x7_2 + t182)) l0 (l0.length : Int) x12_1 t178 (t178.length : Int) (wrap64 (x27_2 + 1))) = some r := H
            have A14 := Aside0.mk A140
            clear A140
            have H' := Aside0.mk H
            clear H
            have p181 : 0 ≤ (x27_2 : Int) := of_decide_eq_true za
            have q181 : x27_2 < (t178.length : Int) := of_decide_eq_true za
            obtain ⟨ad181, e181, hx181_0⟩ := Kd.at_int (Kd.R_reads' HO_25.out).2.2 x27_2 p181 q181
            cases e181
            replace p181 := eq_true p181
            replace q181 := eq_true q181
            go_wp2_with (first | ((with_reducible refine gate_callee (f := 32) rfl ?_); refine goesL_ (some 33) rfl rfl Try.func32 (by kernel_rfl) rfl #[.int .i64 (rd t178 x27_2)] rfl zl ?_; (with_reducible refine (class_Width.calls k2 (rd t178 x27_2) t182 _ A14.out).mono ?_); rintro e w15 ⟨rfl, hb⟩; refine ⟨_, rfl, ?_⟩; have n0_ := Aside0.mk (Kd.R_below (zk HO_3.out) hb); have n1_ := Aside0.mk (Kd.R_below (zk HO_25.out) hb); have n2_ := Aside0.mk (blk_below (g := gb174) (o := .cells #[.int .i64 ((rd_T31 l0 x12_1).f0), .int .i64 ((rd_T31 l0 x12_1).f1), .int .i64 ((rd_T31 l0 x12_1).f2), .string ((rd_T31 l0 x12_1).f3)] 31 (0, 0)) (zj BK174.out) hb); have n3_ := Aside0.mk (below_step (by repeat (first | (with_reducible first | exact HB.out | apply below_alloc | apply pw_below_drewN | apply below_drew1 | refine below_set ?_ GE174.out) | exact HB.out)) hb); clear HO_3; clear HO_25; clear BK174; clear HB; have HO_3 := n0_; have HO_25 := n1_; have BK174 := n2_; have HB := n3_; clear n0_ n1_ n2_ n3_; (try clear hb); (try clear hb2); (try clear hk); (try clear hi)))
            go_roundg k2
            case measure => have := HK1.out; have := HK2.out; omega
            case rel => exact ⟨(wrap64 (x7_2 + t182)), (wrap64 (x27_2 + 1)), (by first | rfl | (simp; done) | (simp [*]; done)), (by first | rfl | (simp; done) | (simp [*]; done)), H', ⟨by have := HK1.out; have := HK2.out; omega⟩, ⟨by (with_reducible repeat (first | apply Kd.R_alloc | apply Kd.R_drewN | apply Kd.R_drew)); exact HO_3.out⟩, ⟨by (with_reducible repeat (first | apply Kd.R_alloc | apply Kd.R_drewN | apply Kd.R_drew)); exact HO_25.out⟩, ⟨by (with_reducible repeat (first | refine blk_drewN ?_ _ | refine blk_drew ?_ | refine blk_alloc ?_ _)); exact BK174.out⟩, ⟨by repeat (first | (with_reducible first | exact HB.out | apply below_alloc | apply pw_below_drewN | apply below_drew1 | refine below_set ?_ GE174.out) | exact HB.out)⟩⟩
           ·rw [if_neg c13] at H
            exact absurd H (by simp)
          ·rw [if_neg c12] at H
           exact absurd H (by simp)
         ·rw [if_neg c11] at H
          have c11b0 : decide (x27_2 < (t178.length : Int)) = false := decide_eq_false c11
          clear c11
          have HC16 := Aside0.mk H
          clear H
          go_upto_region 15 with (fail)
          go_cut [41] (fun v41 wc => ∃ (kq : Nat) (x41_15 : Bool), v41 = .bool x41_15 ∧ Aside0 (emit_Skeleton.j2 kq x3_1 x4_1 x7_2 l0 (l0.length : Int) x12_1 x41_15 = some r) ∧ Aside0 (kq ≤ k2) ∧ Aside0 (Kd.R k31 31 wc w.heap.size (fun k_ => k_ ≠ gb174) u3 x3_1) ∧ Aside0 (wc.heap[gb174]? = some (.cells #[.int .i64 ((rd_T31 l0 x12_1).f0), .int .i64 ((rd_T31 l0 x12_1).f1), .int .i64 ((rd_T31 l0 x12_1).f2), .string ((rd_T31 l0 x12_1).f3)] 31 (0, 0))) ∧ Aside0 (Below w.heap.size w wc))
          case first =>
           have H := HC16.out
           clear HC16
           by_cases c17 : x7_2 > 0
           ·rw [if_pos c17] at H
            have c17b0 : decide (0 < x7_2) = true := decide_eq_true c17
            clear c17
            (first | rw [c17b0] | (simp only [i64_w, i32_w]; rw [c17b0]) | skip)
            have H' := Aside0.mk H
            clear H
            go_wp2
            go_meet
            case rel => exact ⟨_, (!x4_1), (by first | rfl | (simp; done) | (simp [*]; done)), H', ⟨by have := HK1.out; have := HK2.out; first | omega | exact Nat.le_refl _⟩, ⟨by (with_reducible repeat (first | apply Kd.R_alloc | apply Kd.R_drewN | apply Kd.R_drew)); exact HO_3.out⟩, ⟨by (with_reducible repeat (first | refine blk_drewN ?_ _ | refine blk_drew ?_ | refine blk_alloc ?_ _)); exact BK174.out⟩, ⟨by repeat (first | (with_reducible first | exact HB.out | apply below_alloc | apply pw_below_drewN | apply below_drew1 | refine below_set ?_ GE174.out) | exact HB.out)⟩⟩
           ·rw [if_neg c17] at H
            have c17b0 : decide (0 < x7_2) = false := decide_eq_false c17
            clear c17
            (first | rw [c17b0] | (simp only [i64_w, i32_w]; rw [c17b0]) | skip)
            have H' := Aside0.mk H
            clear H
            go_wp2
            go_meet
            case rel => exact ⟨_, (false), (by first | rfl | (simp; done) | (simp [*]; done)), H', ⟨by have := HK1.out; have := HK2.out; first | omega | exact Nat.le_refl _⟩, ⟨by (with_reducible repeat (first | apply Kd.R_alloc | apply Kd.R_drewN | apply Kd.R_drew)); exact HO_3.out⟩, ⟨by (with_reducible repeat (first | refine blk_drewN ?_ _ | refine blk_drew ?_ | refine blk_alloc ?_ _)); exact BK174.out⟩, ⟨by repeat (first | (with_reducible first | exact HB.out | apply below_alloc | apply pw_below_drewN | apply below_drew1 | refine below_set ?_ GE174.out) | exact HB.out)⟩⟩
          case rest =>
           clear HC16
           try clear c1
           try clear p1
           try clear q1
           try clear hx1
           try clear c2
           try clear c2b0
           try clear p2
           try clear c3
           try clear c3b0
           try clear c4
           try clear c4b0
           try clear c5
           try clear c5b0
           try clear c5b1
           try clear p6
           try clear c11
           try clear c11b0
           try clear c12
           try clear c12b0
           try clear c13
           try clear c13b0
           try clear c17
           try clear c17b0
           try clear p17
           try clear q17
           try clear hx17
           try clear hcz8_0
           try clear hcz8_1
           try clear hcz8_2
           try clear hcz8_3
           try clear hfz8_0
           try clear hfz8_1
           try clear hfz8_2
           try clear hfz8_3
           try clear hx173_0
           try clear hx173_1
           try clear hx173_2
           try clear hx173_3
           try clear hx181_0
           try clear p1
           try clear p173
           try clear p181
           try clear p2
           try clear q1
           try clear q173
           try clear q181
           obtain ⟨kq, x41_15, rfl, HA, HJ15, HO_3, BK174, HB⟩ := hcut
           cases kq with
           | zero => exact absurd HA.out (by simp [emit_Skeleton.j2])
           | succ kj15 =>
            have H := HA.out
            clear HA
            simp only [emit_Skeleton.j2] at H
            by_cases c18 : x41_15 = true
            ·subst c18
             have H1 : (if x3_1.length < 3518437208883 then ((some (x3_1 ++ [(⟨0, 0, 0, (⟨#[]⟩ : ByteArray)⟩ : S31)] : List (S31))).bind fun y183 => (if x7_2 > 0 then (if 0 ≤ (wrap64 ((y183.length : Int) - 1)) then (if (wrap64 ((y183.length : Int) - 1)) < (y183.length : Int) then (emit_Skeleton.l0 kj15 (y183.set ((wrap64 ((y183.length : Int) - 1)) : Int).toNat (⟨(rd_T31 y183 (wrap64 ((y183.length : Int) - 1))).f0, wrap64 (((rd_T31 y183 (wrap64 ((y183.length : Int) - 1))).f1) + x7_2), (rd_T31 y183 (wrap64 ((y183.length : Int) - 1))).f2, (rd_T31 y183 (wrap64 ((y183.length : Int) - 1))).f3⟩ : S31)) true l0 (l0.length : Int) (wrap64 (x12_1 + 1))) else (none)) else (none)) else (emit_Skeleton.l0 kj15 y183 true l0 (l0.length : Int) (wrap64 (x12_1 + 1))))) else (none)) = some r := by rw [if_pos rfl] at H; exact H
             clear H
             have H := H1
             clear H1
             by_cases c19 : x3_1.length < 3518437208883
             ·rw [if_pos c19] at H
              have LMc19 := Aside0.mk c19
              clear c19
              obtain ⟨y183, hy183⟩ : ∃ y_ : List (S31), y_ = (x3_1 ++ [(⟨0, 0, 0, (⟨#[]⟩ : ByteArray)⟩ : S31)]) := ⟨_, rfl⟩
              replace H : (if x7_2 > 0 then (if 0 ≤ (wrap64 ((y183.length : Int) - 1)) then (if (wrap64 ((y183.length : Int) - 1)) < (y183.length : Int) then (emit_Skeleton.l0 kj15 (y183.set ((wrap64 ((y183.length : Int) - 1)) : Int).toNat (⟨(rd_T31 y183 (wrap64 ((y183.length : Int) - 1))).f0, wrap64 (((rd_T31 y183 (wrap64 ((y183.length : Int) - 1))).f1) + x7_2), (rd_T31 y183 (wrap64 ((y183.length : Int) - 1))).f2, (rd_T31 y183 (wrap64 ((y183.length : Int) - 1))).f3⟩ : S31)) true l0 (l0.length : Int) (wrap64 (x12_1 + 1))) else (none)) else (none)) else (emit_Skeleton.l0 kj15 y183 true l0 (l0.length : Int) (wrap64 (x12_1 + 1)))) = some r := by first | (rw [hy183]; with_reducible exact H) | (have H2_ := (Option.bind_some _ _).symm.trans H; rw [hy183]; with_reducible exact H2_) | (have H2_ := (Option.bind_some _ _).symm.trans H; with_reducible exact H2_) | with_reducible exact H | (rw [hy183]; exact H) | exact H
              have Ny183 := Aside0.mk hy183
              clear hy183
              by_cases c20 : x7_2 > 0
              ·rw [if_pos c20] at H
               have c20b0 : decide (0 < x7_2) = true := decide_eq_true c20
               clear c20
               obtain ⟨ji21, hji21⟩ : ∃ j_ : Int, (wrap64 ((y183.length : Int) - 1)) = j_ := ⟨_, rfl⟩
               replace H : (if 0 ≤ (ji21) then (if (ji21) < (y183.length : Int) then (emit_Skeleton.l0 kj15 (y183.set ((ji21) : Int).toNat (⟨(rd_T31 y183 (ji21)).f0, wrap64 (((rd_T31 y183 (ji21)).f1) + x7_2), (rd_T31 y183 (ji21)).f2, (rd_T31 y183 (ji21)).f3⟩ : S31)) true l0 (l0.length : Int) (wrap64 (x12_1 + 1))) else (none)) else (none)) = some r := by first | (rw [hji21] at H; exact H) | (simp only [hji21] at H ⊢; exact H)
               have hji21w : (IntKind.i64.wrap ((y183.length : Int) - 1)) = ji21 := (i64_w _).trans hji21
               by_cases c22 : 0 ≤ (ji21)
               ·rw [if_pos c22] at H
                have c22b0 : decide (0 ≤ (ji21)) = true := decide_eq_true c22
                clear c22
                by_cases c23 : (ji21) < (y183.length : Int)
                ·rw [if_pos c23] at H
                 have c23b0 : decide ((ji21) < (y183.length : Int)) = true := decide_eq_true c23
                 clear c23
                 obtain ⟨y187, hy187⟩ : ∃ y_ : List (S31), y_ = (y183.set ((ji21) : Int).toNat (⟨(rd_T31 y183 (ji21)).f0, wrap64 (((rd_T31 y183 (ji21)).f1) + x7_2), (rd_T31 y183 (ji21)).f2, (rd_T31 y183 (ji21)).f3⟩ : S31)) := ⟨_, rfl⟩
                 replace H : (emit_Skeleton.l0 kj15 y187 true l0 (l0.length : Int) (wrap64 (x12_1 + 1))) = some r := by first | (rw [hy187]; with_reducible exact H) | (have H2_ := (Option.bind_some _ _).symm.trans H; rw [hy187]; with_reducible exact H2_) | (have H2_ := (Option.bind_some _ _).symm.trans H; with_reducible exact H2_) | with_reducible exact H | (rw [hy187]; exact H) | exact H
                 have Ny187 := Aside0.mk hy187
                 clear hy187
                 have H' := Aside0.mk H
                 clear H
                 go_wp2_with (first | ((with_reducible refine gate_builtin (b := .append) (xs := #[.tmp 42, .tmp 44]) rfl ?_); at_builtin; refine Kd.R_append k31 (w0 := w) w.heap.size rfl (.tmp 42) (.tmp 44) 22 31 (.agg #[(.int .i64 0), (.int .i64 0), (.int .i64 0), (.string ⟨#[]⟩)]) 40 rfl Try.underlying22 info31 rfl (by decide) (by omega) u3 x3_1 (⟨0, 0, 0, (⟨#[]⟩ : ByteArray)⟩ : S31) [.int .i64 0, .int .i64 0, .int .i64 0, .string (⟨#[]⟩ : ByteArray)] (fun k_ => k_ ≠ gb174) (fun _ => False) rfl rfl ?aP (fun _ hk => hk.elim) ?aF ?aO ?aB ?aS ?aL ?_; (case aP => exact k31_mkM _ _ _ (⟨0, 0, 0, (⟨#[]⟩ : ByteArray)⟩ : S31)); (case aB => exact (by repeat (first | (with_reducible first | exact HB.out | apply below_alloc | apply pw_below_drewN | apply below_drew1 | refine below_set ?_ GE174.out) | exact HB.out))); (case aF => exact (fun k_ hk => Kd.freshB (g := gb174) (o := .cells #[.int .i64 ((rd_T31 l0 x12_1).f0), .int .i64 ((rd_T31 l0 x12_1).f1), .int .i64 ((rd_T31 l0 x12_1).f2), .string ((rd_T31 l0 x12_1).f3)] 31 (0, 0)) (zj BK174.out) k_ hk)); (case aO => exact (zk HO_3.out)); (case aS => exact (below_size (by repeat (first | (with_reducible first | exact HB.out | apply below_alloc | apply pw_below_drewN | apply below_drew1 | refine below_set ?_ GE174.out) | exact HB.out)))); (case aL => have := LMc19.out; omega); intro v184 w25 ho hb hg hat; rw [← Ny183.out] at ho; have n0_ := Aside0.mk (blk_grown (g := gb174) (o := .cells #[.int .i64 ((rd_T31 l0 x12_1).f0), .int .i64 ((rd_T31 l0 x12_1).f1), .int .i64 ((rd_T31 l0 x12_1).f2), .string ((rd_T31 l0 x12_1).f3)] 31 (0, 0)) (zj BK174.out) hg (Kd.R_away HO_3.out (fun _ hk => hk))); have n1_ := Aside0.mk (hb); have n2_ := Aside0.mk (ho); clear BK174; clear HB; clear HO_3; have BK174 := n0_; have HB := n1_; have HO185 := n2_; clear n0_ n1_ n2_; clear ho hb hg hat; obtain ⟨Ao26, co26, eo26⟩ := Kd.R_slice HO185.out; subst eo26; have p186 : 0 ≤ ((ji21) : Int) := of_decide_eq_true za; have q186 : (ji21) < (y183.length : Int) := of_decide_eq_true za; obtain ⟨ad186, e186, hx186_0, hx186_1, hx186_2, hx186_3⟩ := at_T31 (Kd.R_reads' HO185.out).2.2 (ji21) p186 q186; cases e186; replace p186 := eq_true p186; replace q186 := eq_true q186; have p24 : 0 ≤ ((ji21) : Int) := of_decide_eq_true za; have q24 : ((ji21) : Int) < ((y183.length : Int) : Int) := of_decide_eq_true za; obtain ⟨go24, co24, eo24, gb24, gl24, cl24, HG24⟩ := Kd.R_form HO185.out (by omega); (first | cases eo24 | (injection eo24 with ea_ en_ ec_; (first | subst ea_ | (injection ea_ with ea_; subst ea_)); subst ec_; clear en_)); have GB24 := Aside0.mk gb24; have GG24 := Aside0.mk HG24; clear gb24 gl24 HG24; (first | simp only [add_plain] at hx186_0 | skip); (first | simp only [add_plain] at hx186_1 | skip); (first | simp only [add_plain] at hx186_2 | skip); (first | simp only [add_plain] at hx186_3 | skip); obtain ⟨ce24, hcl24, hM24, hcc24, hfr24⟩ := Kd.R_elem HO185.out z31 ((ji21) : Int) p24 q24; obtain rfl := k31_openM hM24; have hx24_0 : w25.cell? ⟨go24, ((ji21) : Int).toNat * 4, none⟩ = some (.int .i64 ((rd_T31 y183 (ji21)).f0)) := hcc24 0 _ rfl; have hx24_1 : w25.cell? ⟨go24, ((ji21) : Int).toNat * 4 + 1, none⟩ = some (.int .i64 ((rd_T31 y183 (ji21)).f1)) := hcc24 1 _ rfl; have hx24_2 : w25.cell? ⟨go24, ((ji21) : Int).toNat * 4 + 2, none⟩ = some (.int .i64 ((rd_T31 y183 (ji21)).f2)) := hcc24 2 _ rfl; have hx24_3 : w25.cell? ⟨go24, ((ji21) : Int).toNat * 4 + 3, none⟩ = some (.string ((rd_T31 y183 (ji21)).f3)) := hcc24 3 _ rfl; have hf24_0 : w25.frozen? ⟨go24, ((ji21) : Int).toNat * 4, none⟩ = false := hfr24 0; have hf24_1 : w25.frozen? ⟨go24, ((ji21) : Int).toNat * 4 + 1, none⟩ = false := hfr24 1; have hf24_2 : w25.frozen? ⟨go24, ((ji21) : Int).toNat * 4 + 2, none⟩ = false := hfr24 2; have hf24_3 : w25.frozen? ⟨go24, ((ji21) : Int).toNat * 4 + 3, none⟩ = false := hfr24 3; clear hcl24 hcc24 hfr24 hM24; replace p24 := eq_true p24; replace q24 := eq_true q24; have HX27 := Aside0.mk (show Kd.R k31 31 w25 w.heap.size (fun k_ => k_ ≠ gb174) (.slice (some ⟨go24, 0, none⟩) y183.length co26) y183 from (zk HO185.out)); obtain ⟨ce27, hcl27, hM27, hcc27, hfr27⟩ := Kd.R_elem HX27.out z31 ((ji21) : Int) (of_decide_eq_true za) (by have h_ : ((ji21) : Int) < ((y183.length : Int) : Int) := of_decide_eq_true za; first | exact h_ | (have e_ := (Kd.R_reads' HO185.out).1; omega) | simpa using h_); obtain rfl := k31_openM hM27; have HP27 := Kd.R_seg HX27.out ((ji21) : Int) (of_decide_eq_true za) (by have h_ : ((ji21) : Int) < ((y183.length : Int) : Int) := of_decide_eq_true za; first | exact h_ | (have e_ := (Kd.R_reads' HO185.out).1; omega) | simpa using h_) (seg := [.int .i64 (wrap64 (((rd_T31 y183 (ji21)).f1) + x7_2))]) (j := 1) hcl27 hcc27 (show 2 ≤ 4 from by decide) (x' := (⟨(rd_T31 y183 (ji21)).f0, wrap64 (((rd_T31 y183 (ji21)).f1) + x7_2), (rd_T31 y183 (ji21)).f2, (rd_T31 y183 (ji21)).f3⟩ : S31)) (k31_mkM _ _ _ (⟨(rd_T31 y183 (ji21)).f0, wrap64 (((rd_T31 y183 (ji21)).f1) + x7_2), (rd_T31 y183 (ji21)).f2, (rd_T31 y183 (ji21)).f3⟩ : S31) ) (fun _ hk => hk); have hx27_1 := hcc27 1 _ rfl; (try simp only [show (k31).sz = 4 from rfl, Nat.mul_one, Nat.add_zero] at hx27_1); have hf27_1 := hfr27 1; (try simp only [show (k31).sz = 4 from rfl, Nat.mul_one, Nat.add_zero] at hf27_1); clear hcl27 hcc27 hfr27 hM27) | ((with_reducible refine gate_store (t := 3) (p := 58) rfl ?_); refine store_event (t := 3) (p := 58) (v := ?vo_w28) (w1 := (w25.setCell ⟨go24, ((ji21) : Int).toNat * 4 + 1, none⟩ (.int .i64 (wrap64 (((rd_T31 y183 (ji21)).f1) + x7_2))))) ?hg ?ho ?hn ?hr ?_; (case ho => rfl); (case hg => rfl); (case hn => rfl); (case hr => first | (go_simp; done) | (go_simp; rfl)); intro w28 hw; have hg : w25.grownBy w28 (some go24) := (by rw [hw]; exact HP27.2); have hp_ : Kd.R k31 31 w28 w.heap.size (fun k_ => k_ ≠ gb174) (.slice (some ⟨go24, 0, none⟩) y183.length co26) y187 := (by rw [hw, Ny187.out]; exact HP27.1); clear HP27; have n0_ := Aside0.mk (blk_grown (g := gb174) (o := .cells #[.int .i64 ((rd_T31 l0 x12_1).f0), .int .i64 ((rd_T31 l0 x12_1).f1), .int .i64 ((rd_T31 l0 x12_1).f2), .string ((rd_T31 l0 x12_1).f3)] 31 (0, 0)) (zj BK174.out) hg (Kd.R_away HO185.out (fun _ hk => hk))); have n1_ := Aside0.mk (hp_); have n2_ := Aside0.mk ((by rw [hw]; exact below_set (HB.out) GB24.out : Below w.heap.size w w28)); clear BK174; clear HO185; clear HB; have BK174 := n0_; have HO185 := n1_; have HB := n2_; clear n0_ n1_ n2_; clear hg hw hp_))
                 go_roundg kj15
                 case measure => have := HK1.out; have := HK2.out; have := HJ15.out; omega
                 case rel => exact ⟨(y187), (true), (wrap64 (x12_1 + 1)), (by first | rfl | (simp; done) | (simp [*]; done)), (by first | rfl | (simp; done) | (simp [*]; done)), H', ⟨by have := HK1.out; have := HK2.out; have := HJ15.out; omega⟩, ⟨by (with_reducible repeat (first | apply Kd.R_alloc | apply Kd.R_drewN | apply Kd.R_drew)); exact Kd.R_mono HO185.out (fun _ hk => trivial)⟩, ⟨by repeat (first | (with_reducible first | exact HB.out | apply below_alloc | apply pw_below_drewN | apply below_drew1 | refine below_set ?_ GE174.out) | exact HB.out)⟩⟩
                ·rw [if_neg c23] at H
                 exact absurd H (by simp)
               ·rw [if_neg c22] at H
                exact absurd H (by simp)
              ·rw [if_neg c20] at H
               have c20b0 : decide (0 < x7_2) = false := decide_eq_false c20
               clear c20
               have H' := Aside0.mk H
               clear H
               go_wp2_with (first | ((with_reducible refine gate_builtin (b := .append) (xs := #[.tmp 42, .tmp 44]) rfl ?_); at_builtin; refine Kd.R_append k31 (w0 := w) w.heap.size rfl (.tmp 42) (.tmp 44) 22 31 (.agg #[(.int .i64 0), (.int .i64 0), (.int .i64 0), (.string ⟨#[]⟩)]) 40 rfl Try.underlying22 info31 rfl (by decide) (by omega) u3 x3_1 (⟨0, 0, 0, (⟨#[]⟩ : ByteArray)⟩ : S31) [.int .i64 0, .int .i64 0, .int .i64 0, .string (⟨#[]⟩ : ByteArray)] (fun k_ => k_ ≠ gb174) (fun _ => False) rfl rfl ?aP (fun _ hk => hk.elim) ?aF ?aO ?aB ?aS ?aL ?_; (case aP => exact k31_mkM _ _ _ (⟨0, 0, 0, (⟨#[]⟩ : ByteArray)⟩ : S31)); (case aB => exact (by repeat (first | (with_reducible first | exact HB.out | apply below_alloc | apply pw_below_drewN | apply below_drew1 | refine below_set ?_ GE174.out) | exact HB.out))); (case aF => exact (fun k_ hk => Kd.freshB (g := gb174) (o := .cells #[.int .i64 ((rd_T31 l0 x12_1).f0), .int .i64 ((rd_T31 l0 x12_1).f1), .int .i64 ((rd_T31 l0 x12_1).f2), .string ((rd_T31 l0 x12_1).f3)] 31 (0, 0)) (zj BK174.out) k_ hk)); (case aO => exact (zk HO_3.out)); (case aS => exact (below_size (by repeat (first | (with_reducible first | exact HB.out | apply below_alloc | apply pw_below_drewN | apply below_drew1 | refine below_set ?_ GE174.out) | exact HB.out)))); (case aL => have := LMc19.out; omega); intro v184 w29 ho hb hg hat; rw [← Ny183.out] at ho; have n0_ := Aside0.mk (blk_grown (g := gb174) (o := .cells #[.int .i64 ((rd_T31 l0 x12_1).f0), .int .i64 ((rd_T31 l0 x12_1).f1), .int .i64 ((rd_T31 l0 x12_1).f2), .string ((rd_T31 l0 x12_1).f3)] 31 (0, 0)) (zj BK174.out) hg (Kd.R_away HO_3.out (fun _ hk => hk))); have n1_ := Aside0.mk (hb); have n2_ := Aside0.mk (ho); clear BK174; clear HB; clear HO_3; have BK174 := n0_; have HB := n1_; have HO185 := n2_; clear n0_ n1_ n2_; clear ho hb hg hat))
               go_roundg kj15
               case measure => have := HK1.out; have := HK2.out; have := HJ15.out; omega
               case rel => exact ⟨(y183), (true), (wrap64 (x12_1 + 1)), (by first | rfl | (simp; done) | (simp [*]; done)), (by first | rfl | (simp; done) | (simp [*]; done)), H', ⟨by have := HK1.out; have := HK2.out; have := HJ15.out; omega⟩, ⟨by (with_reducible repeat (first | apply Kd.R_alloc | apply Kd.R_drewN | apply Kd.R_drew)); exact Kd.R_mono HO185.out (fun _ hk => trivial)⟩, ⟨by repeat (first | (with_reducible first | exact HB.out | apply below_alloc | apply pw_below_drewN | apply below_drew1 | refine below_set ?_ GE174.out) | exact HB.out)⟩⟩
             ·rw [if_neg c19] at H
              exact absurd H (by simp)
            ·replace c18 := Bool.eq_false_iff.mpr c18
             subst c18
             have H1 : (if x7_2 > 0 then (if 0 ≤ (wrap64 ((x3_1.length : Int) - 1)) then (if (wrap64 ((x3_1.length : Int) - 1)) < (x3_1.length : Int) then (emit_Skeleton.l0 kj15 (x3_1.set ((wrap64 ((x3_1.length : Int) - 1)) : Int).toNat (⟨(rd_T31 x3_1 (wrap64 ((x3_1.length : Int) - 1))).f0, wrap64 (((rd_T31 x3_1 (wrap64 ((x3_1.length : Int) - 1))).f1) + x7_2), (rd_T31 x3_1 (wrap64 ((x3_1.length : Int) - 1))).f2, (rd_T31 x3_1 (wrap64 ((x3_1.length : Int) - 1))).f3⟩ : S31)) x4_1 l0 (l0.length : Int) (wrap64 (x12_1 + 1))) else (none)) else (none)) else (emit_Skeleton.l0 kj15 x3_1 x4_1 l0 (l0.length : Int) (wrap64 (x12_1 + 1)))) = some r := by rw [if_neg (show ¬ (false = true) by decide)] at H; exact H
             clear H
             have H := H1
             clear H1
             by_cases c30 : x7_2 > 0
             ·rw [if_pos c30] at H
              have c30b0 : decide (0 < x7_2) = true := decide_eq_true c30
              clear c30
              obtain ⟨ji31, hji31⟩ : ∃ j_ : Int, (wrap64 ((x3_1.length : Int) - 1)) = j_ := ⟨_, rfl⟩
              replace H : (if 0 ≤ (ji31) then (if (ji31) < (x3_1.length : Int) then (emit_Skeleton.l0 kj15 (x3_1.set ((ji31) : Int).toNat (⟨(rd_T31 x3_1 (ji31)).f0, wrap64 (((rd_T31 x3_1 (ji31)).f1) + x7_2), (rd_T31 x3_1 (ji31)).f2, (rd_T31 x3_1 (ji31)).f3⟩ : S31)) x4_1 l0 (l0.length : Int) (wrap64 (x12_1 + 1))) else (none)) else (none)) = some r := by first | (rw [hji31] at H; exact H) | (simp only [hji31] at H ⊢; exact H)
              have hji31w : (IntKind.i64.wrap ((x3_1.length : Int) - 1)) = ji31 := (i64_w _).trans hji31
              by_cases c32 : 0 ≤ (ji31)
              ·rw [if_pos c32] at H
               have c32b0 : decide (0 ≤ (ji31)) = true := decide_eq_true c32
               clear c32
               by_cases c33 : (ji31) < (x3_1.length : Int)
               ·rw [if_pos c33] at H
                have c33b0 : decide ((ji31) < (x3_1.length : Int)) = true := decide_eq_true c33
                clear c33
                obtain ⟨y189, hy189⟩ : ∃ y_ : List (S31), y_ = (x3_1.set ((ji31) : Int).toNat (⟨(rd_T31 x3_1 (ji31)).f0, wrap64 (((rd_T31 x3_1 (ji31)).f1) + x7_2), (rd_T31 x3_1 (ji31)).f2, (rd_T31 x3_1 (ji31)).f3⟩ : S31)) := ⟨_, rfl⟩
                replace H : (emit_Skeleton.l0 kj15 y189 x4_1 l0 (l0.length : Int) (wrap64 (x12_1 + 1))) = some r := by first | (rw [hy189]; with_reducible exact H) | (have H2_ := (Option.bind_some _ _).symm.trans H; rw [hy189]; with_reducible exact H2_) | (have H2_ := (Option.bind_some _ _).symm.trans H; with_reducible exact H2_) | with_reducible exact H | (rw [hy189]; exact H) | exact H
                have Ny189 := Aside0.mk hy189
                clear hy189
                have H' := Aside0.mk H
                clear H
                obtain ⟨Ao35, co35, eo35⟩ := Kd.R_slice HO_3.out
                subst eo35
                have p188 : 0 ≤ ((ji31) : Int) := of_decide_eq_true za
                have q188 : (ji31) < (x3_1.length : Int) := of_decide_eq_true za
                obtain ⟨ad188, e188, hx188_0, hx188_1, hx188_2, hx188_3⟩ := at_T31 (Kd.R_reads' HO_3.out).2.2 (ji31) p188 q188
                cases e188
                replace p188 := eq_true p188
                replace q188 := eq_true q188
                have p34 : 0 ≤ ((ji31) : Int) := of_decide_eq_true za
                have q34 : ((ji31) : Int) < ((x3_1.length : Int) : Int) := of_decide_eq_true za
                obtain ⟨go34, co34, eo34, gb34, gl34, cl34, HG34⟩ := Kd.R_form HO_3.out (by omega)
                (first | cases eo34 | (injection eo34 with ea_ en_ ec_; (first | subst ea_ | (injection ea_ with ea_; subst ea_)); subst ec_; clear en_))
                have GB34 := Aside0.mk gb34
                have GG34 := Aside0.mk HG34
                clear gb34 gl34 HG34
                (first | simp only [add_plain] at hx188_0 | skip)
                (first | simp only [add_plain] at hx188_1 | skip)
                (first | simp only [add_plain] at hx188_2 | skip)
                (first | simp only [add_plain] at hx188_3 | skip)
                obtain ⟨ce34, hcl34, hM34, hcc34, hfr34⟩ := Kd.R_elem HO_3.out z31 ((ji31) : Int) p34 q34
                obtain rfl := k31_openM hM34
                have hx34_0 : wc.cell? ⟨go34, ((ji31) : Int).toNat * 4, none⟩ = some (.int .i64 ((rd_T31 x3_1 (ji31)).f0)) := hcc34 0 _ rfl
                have hx34_1 : wc.cell? ⟨go34, ((ji31) : Int).toNat * 4 + 1, none⟩ = some (.int .i64 ((rd_T31 x3_1 (ji31)).f1)) := hcc34 1 _ rfl
                have hx34_2 : wc.cell? ⟨go34, ((ji31) : Int).toNat * 4 + 2, none⟩ = some (.int .i64 ((rd_T31 x3_1 (ji31)).f2)) := hcc34 2 _ rfl
                have hx34_3 : wc.cell? ⟨go34, ((ji31) : Int).toNat * 4 + 3, none⟩ = some (.string ((rd_T31 x3_1 (ji31)).f3)) := hcc34 3 _ rfl
                have hf34_0 : wc.frozen? ⟨go34, ((ji31) : Int).toNat * 4, none⟩ = false := hfr34 0
                have hf34_1 : wc.frozen? ⟨go34, ((ji31) : Int).toNat * 4 + 1, none⟩ = false := hfr34 1
                have hf34_2 : wc.frozen? ⟨go34, ((ji31) : Int).toNat * 4 + 2, none⟩ = false := hfr34 2
                have hf34_3 : wc.frozen? ⟨go34, ((ji31) : Int).toNat * 4 + 3, none⟩ = false := hfr34 3
                clear hcl34 hcc34 hfr34 hM34
                replace p34 := eq_true p34
                replace q34 := eq_true q34
                have HX36 := Aside0.mk (show Kd.R k31 31 wc w.heap.size (fun k_ => k_ ≠ gb174) (.slice (some ⟨go34, 0, none⟩) x3_1.length co35) x3_1 from (zk HO_3.out))
                obtain ⟨ce36, hcl36, hM36, hcc36, hfr36⟩ := Kd.R_elem HX36.out z31 ((ji31) : Int) (of_decide_eq_true za) (by have h_ : ((ji31) : Int) < ((x3_1.length : Int) : Int) := of_decide_eq_true za; first | exact h_ | (have e_ := (Kd.R_reads' HO_3.out).1; omega) | simpa using h_)
                obtain rfl := k31_openM hM36
                have HP36 := Kd.R_seg HX36.out ((ji31) : Int) (of_decide_eq_true za) (by have h_ : ((ji31) : Int) < ((x3_1.length : Int) : Int) := of_decide_eq_true za; first | exact h_ | (have e_ := (Kd.R_reads' HO_3.out).1; omega) | simpa using h_) (seg := [.int .i64 (wrap64 (((rd_T31 x3_1 (ji31)).f1) + x7_2))]) (j := 1) hcl36 hcc36 (show 2 ≤ 4 from by decide) (x' := (⟨(rd_T31 x3_1 (ji31)).f0, wrap64 (((rd_T31 x3_1 (ji31)).f1) + x7_2), (rd_T31 x3_1 (ji31)).f2, (rd_T31 x3_1 (ji31)).f3⟩ : S31)) (k31_mkM _ _ _ (⟨(rd_T31 x3_1 (ji31)).f0, wrap64 (((rd_T31 x3_1 (ji31)).f1) + x7_2), (rd_T31 x3_1 (ji31)).f2, (rd_T31 x3_1 (ji31)).f3⟩ : S31) ) (fun _ hk => hk)
                have hx36_1 := hcc36 1 _ rfl
                (try simp only [show (k31).sz = 4 from rfl, Nat.mul_one, Nat.add_zero] at hx36_1)
                have hf36_1 := hfr36 1
                (try simp only [show (k31).sz = 4 from rfl, Nat.mul_one, Nat.add_zero] at hf36_1)
                clear hcl36 hcc36 hfr36 hM36
                go_wp2_with (first | ((with_reducible refine gate_store (t := 3) (p := 58) rfl ?_); refine store_event (t := 3) (p := 58) (v := ?vo_w37) (w1 := (wc.setCell ⟨go34, ((ji31) : Int).toNat * 4 + 1, none⟩ (.int .i64 (wrap64 (((rd_T31 x3_1 (ji31)).f1) + x7_2))))) ?hg ?ho ?hn ?hr ?_; (case ho => rfl); (case hg => rfl); (case hn => rfl); (case hr => first | (go_simp; done) | (go_simp; rfl)); intro w37 hw; have hg : wc.grownBy w37 (some go34) := (by rw [hw]; exact HP36.2); have hp_ : Kd.R k31 31 w37 w.heap.size (fun k_ => k_ ≠ gb174) (.slice (some ⟨go34, 0, none⟩) x3_1.length co35) y189 := (by rw [hw, Ny189.out]; exact HP36.1); clear HP36; have n0_ := Aside0.mk (hp_); have n1_ := Aside0.mk (blk_grown (g := gb174) (o := .cells #[.int .i64 ((rd_T31 l0 x12_1).f0), .int .i64 ((rd_T31 l0 x12_1).f1), .int .i64 ((rd_T31 l0 x12_1).f2), .string ((rd_T31 l0 x12_1).f3)] 31 (0, 0)) (zj BK174.out) hg (Kd.R_away HO_3.out (fun _ hk => hk))); have n2_ := Aside0.mk ((by rw [hw]; exact below_set (HB.out) GB34.out : Below w.heap.size w w37)); clear HO_3; clear BK174; clear HB; have HO_3 := n0_; have BK174 := n1_; have HB := n2_; clear n0_ n1_ n2_; clear hg hw hp_))
                go_roundg kj15
                case measure => have := HK1.out; have := HK2.out; have := HJ15.out; omega
                case rel => exact ⟨(y189), (x4_1), (wrap64 (x12_1 + 1)), (by first | rfl | (simp; done) | (simp [*]; done)), (by first | rfl | (simp; done) | (simp [*]; done)), H', ⟨by have := HK1.out; have := HK2.out; have := HJ15.out; omega⟩, ⟨by (with_reducible repeat (first | apply Kd.R_alloc | apply Kd.R_drewN | apply Kd.R_drew)); exact Kd.R_mono HO_3.out (fun _ hk => trivial)⟩, ⟨by repeat (first | (with_reducible first | exact HB.out | apply below_alloc | apply pw_below_drewN | apply below_drew1 | refine below_set ?_ GE174.out) | exact HB.out)⟩⟩
               ·rw [if_neg c33] at H
                exact absurd H (by simp)
              ·rw [if_neg c32] at H
               exact absurd H (by simp)
             ·rw [if_neg c30] at H
              have c30b0 : decide (0 < x7_2) = false := decide_eq_false c30
              clear c30
              have H' := Aside0.mk H
              clear H
              go_wp2
              go_roundg kj15
              case measure => have := HK1.out; have := HK2.out; have := HJ15.out; omega
              case rel => exact ⟨(x3_1), (x4_1), (wrap64 (x12_1 + 1)), (by first | rfl | (simp; done) | (simp [*]; done)), (by first | rfl | (simp; done) | (simp [*]; done)), H', ⟨by have := HK1.out; have := HK2.out; have := HJ15.out; omega⟩, ⟨by (with_reducible repeat (first | apply Kd.R_alloc | apply Kd.R_drewN | apply Kd.R_drew)); exact Kd.R_mono HO_3.out (fun _ hk => trivial)⟩, ⟨by repeat (first | (with_reducible first | exact HB.out | apply below_alloc | apply pw_below_drewN | apply below_drew1 | refine below_set ?_ GE174.out) | exact HB.out)⟩⟩
      ·rw [if_neg c5] at H
       have c5b0 : (((rd_T31 l0 x12_1).f0) == 0) = false := beq_eq_false_iff_ne.mpr c5
       have c5b1 : (((rd_T31 l0 x12_1).f0) != 0) = true := bne_iff_ne.mpr c5
       by_cases c38 : x3_1.length < 3518437208883
       ·rw [if_pos c38] at H
        have LMc38 := Aside0.mk c38
        clear c38
        obtain ⟨y175, hy175⟩ : ∃ y_ : List (S31), y_ = (x3_1 ++ [(⟨(rd_T31 l0 x12_1).f0, (rd_T31 l0 x12_1).f1, (rd_T31 l0 x12_1).f2, (rd_T31 l0 x12_1).f3⟩ : S31)]) := ⟨_, rfl⟩
        replace H : (emit_Skeleton.l0 k1 y175 false l0 (l0.length : Int) (wrap64 (x12_1 + 1))) = some r := by first | (rw [hy175]; with_reducible exact H) | (have H2_ := (Option.bind_some _ _).symm.trans H; rw [hy175]; with_reducible exact H2_) | (have H2_ := (Option.bind_some _ _).symm.trans H; with_reducible exact H2_) | with_reducible exact H | (rw [hy175]; exact H) | exact H
        have Ny175 := Aside0.mk hy175
        clear hy175
        have H' := Aside0.mk H
        clear H
        have p173 : 0 ≤ (x12_1 : Int) := of_decide_eq_true za
        have q173 : x12_1 < (l0.length : Int) := of_decide_eq_true za
        obtain ⟨ad173, e173, hx173_0, hx173_1, hx173_2, hx173_3⟩ := at_T31 HR0.out x12_1 p173 q173
        cases e173
        replace hx173_0 := (HB.out.cell (World.block_lt_of_cell? w _ hx173_0)).trans hx173_0
        replace hx173_1 := (HB.out.cell (World.block_lt_of_cell? w _ hx173_1)).trans hx173_1
        replace hx173_2 := (HB.out.cell (World.block_lt_of_cell? w _ hx173_2)).trans hx173_2
        replace hx173_3 := (HB.out.cell (World.block_lt_of_cell? w _ hx173_3)).trans hx173_3
        replace p173 := eq_true p173
        replace q173 := eq_true q173
        go_wp2_with (first | ((with_reducible refine gate_dst (N := 6) rfl ?_); refine box_event ?hg (N := 6) ?hd (cs := #[.int .i64 0, .int .i64 0, .int .i64 0, .string (⟨#[]⟩ : ByteArray)]) (t := 31) ?hr ?_; (case hd => rfl); (case hg => rfl); (case hr => first | (go_simp; done) | (go_simp; rfl)); intro gb174 hg w39 hbox hb; have n0_ := Aside0.mk (Kd.R_below (Kd.R_elderB (zk HO_3.out) gb174 (Nat.le_of_eq hg.symm)) hb); have n1_ := Aside0.mk (below_step zb hb); have n2_ := Aside0.mk (hbox); have n3_ := Aside0.mk ((by rw [hg]; exact (below_size zb) : w.heap.size ≤ gb174)); have n4_ := Aside0.mk ((by rw [hg]; exact (below_size zb) : w.heap.size ≤ gb174)); clear HO_3; clear HB; have HO_3 := n0_; have HB := n1_; have BK174 := n2_; have GW174 := n3_; have GE174 := n4_; clear n0_ n1_ n2_ n3_ n4_; clear hb hbox hg; have hcz40_0 : w39.cell? ⟨gb174, 0, none⟩ = some (.int .i64 0) := (blk_cell BK174.out 0).trans rfl; have hcz40_1 : w39.cell? ⟨gb174, 1, none⟩ = some (.int .i64 0) := (blk_cell BK174.out 1).trans rfl; have hcz40_2 : w39.cell? ⟨gb174, 2, none⟩ = some (.int .i64 0) := (blk_cell BK174.out 2).trans rfl; have hcz40_3 : w39.cell? ⟨gb174, 3, none⟩ = some (.string (⟨#[]⟩ : ByteArray)) := (blk_cell BK174.out 3).trans rfl; have hfz40_0 := blk_frozen BK174.out 0; have hfz40_1 := blk_frozen BK174.out 1; have hfz40_2 := blk_frozen BK174.out 2; have hfz40_3 := blk_frozen BK174.out 3) | ((with_reducible refine gate_builtin (b := .append) (xs := #[.tmp 19, .tmp 21]) rfl ?_); at_builtin; refine Kd.R_append k31 (w0 := w) w.heap.size rfl (.tmp 19) (.tmp 21) 22 31 (.agg #[(.int .i64 0), (.int .i64 0), (.int .i64 0), (.string ⟨#[]⟩)]) 40 rfl Try.underlying22 info31 rfl (by decide) (by omega) u3 x3_1 (⟨(rd_T31 l0 x12_1).f0, (rd_T31 l0 x12_1).f1, (rd_T31 l0 x12_1).f2, (rd_T31 l0 x12_1).f3⟩ : S31) [.int .i64 ((rd_T31 l0 x12_1).f0), .int .i64 ((rd_T31 l0 x12_1).f1), .int .i64 ((rd_T31 l0 x12_1).f2), .string ((rd_T31 l0 x12_1).f3)] (fun k_ => k_ ≠ gb174) (fun _ => False) rfl (by first | (go_simp; done) | (go_simp; rfl)) ?aP (fun _ hk => hk.elim) ?aF ?aO ?aB ?aS ?aL ?_; (case aP => exact k31_mkM _ _ _ (⟨(rd_T31 l0 x12_1).f0, (rd_T31 l0 x12_1).f1, (rd_T31 l0 x12_1).f2, (rd_T31 l0 x12_1).f3⟩ : S31)); (case aB => exact (by repeat (first | (with_reducible first | exact HB.out | apply below_alloc | apply pw_below_drewN | apply below_drew1 | refine below_set ?_ GE174.out) | exact HB.out))); (case aF => exact (fun k_ hk => Kd.freshB (g := gb174) (o := .cells #[.int .i64 ((rd_T31 l0 x12_1).f0), .int .i64 ((rd_T31 l0 x12_1).f1), .int .i64 ((rd_T31 l0 x12_1).f2), .string ((rd_T31 l0 x12_1).f3)] 31 (0, 0)) (by (with_reducible repeat (first | refine blk_drewN ?_ _ | refine blk_drew ?_ | refine blk_alloc ?_ _)); refine blk_put (cs := #[.int .i64 ((rd_T31 l0 x12_1).f0), .int .i64 ((rd_T31 l0 x12_1).f1), .int .i64 ((rd_T31 l0 x12_1).f2), .string (⟨#[]⟩ : ByteArray)]) ?_ 3 _ rfl; (with_reducible repeat (first | refine blk_drewN ?_ _ | refine blk_drew ?_ | refine blk_alloc ?_ _)); refine blk_put (cs := #[.int .i64 ((rd_T31 l0 x12_1).f0), .int .i64 ((rd_T31 l0 x12_1).f1), .int .i64 0, .string (⟨#[]⟩ : ByteArray)]) ?_ 2 _ rfl; (with_reducible repeat (first | refine blk_drewN ?_ _ | refine blk_drew ?_ | refine blk_alloc ?_ _)); refine blk_put (cs := #[.int .i64 ((rd_T31 l0 x12_1).f0), .int .i64 0, .int .i64 0, .string (⟨#[]⟩ : ByteArray)]) ?_ 1 _ rfl; (with_reducible repeat (first | refine blk_drewN ?_ _ | refine blk_drew ?_ | refine blk_alloc ?_ _)); refine blk_put (cs := #[.int .i64 0, .int .i64 0, .int .i64 0, .string (⟨#[]⟩ : ByteArray)]) ?_ 0 _ rfl; (with_reducible repeat (first | refine blk_drewN ?_ _ | refine blk_drew ?_ | refine blk_alloc ?_ _)); exact BK174.out) k_ hk)); (case aO => exact (by (with_reducible repeat (first | apply Kd.R_alloc | apply Kd.R_drewN | apply Kd.R_drew)); exact Kd.R_mono (Kd.R_far (p := ⟨gb174, 3, none⟩) (Kd.R_far (p := ⟨gb174, 2, none⟩) (Kd.R_far (p := ⟨gb174, 1, none⟩) (Kd.R_far (p := ⟨gb174, 0, none⟩) (Kd.R_mono HO_3.out (fun k_ hk => (⟨hk, hk.2⟩ : _ ∧ k_ ≠ gb174))) (fun _ hk => hk.2) (.int .i64 ((rd_T31 l0 x12_1).f0))) (fun _ hk => hk.2) (.int .i64 ((rd_T31 l0 x12_1).f1))) (fun _ hk => hk.2) (.int .i64 ((rd_T31 l0 x12_1).f2))) (fun _ hk => hk.2) (.string ((rd_T31 l0 x12_1).f3))) (fun _ hk => hk.1.2))); (case aS => exact (below_size (by repeat (first | (with_reducible first | exact HB.out | apply below_alloc | apply pw_below_drewN | apply below_drew1 | refine below_set ?_ GE174.out) | exact HB.out)))); (case aL => have := LMc38.out; omega); intro v176 w41 ho hb hg hat; rw [← Ny175.out] at ho; have n0_ := Aside0.mk (blk_grown (g := gb174) (o := .cells #[.int .i64 ((rd_T31 l0 x12_1).f0), .int .i64 ((rd_T31 l0 x12_1).f1), .int .i64 ((rd_T31 l0 x12_1).f2), .string ((rd_T31 l0 x12_1).f3)] 31 (0, 0)) (by (with_reducible repeat (first | refine blk_drewN ?_ _ | refine blk_drew ?_ | refine blk_alloc ?_ _)); refine blk_put (cs := #[.int .i64 ((rd_T31 l0 x12_1).f0), .int .i64 ((rd_T31 l0 x12_1).f1), .int .i64 ((rd_T31 l0 x12_1).f2), .string (⟨#[]⟩ : ByteArray)]) ?_ 3 _ rfl; (with_reducible repeat (first | refine blk_drewN ?_ _ | refine blk_drew ?_ | refine blk_alloc ?_ _)); refine blk_put (cs := #[.int .i64 ((rd_T31 l0 x12_1).f0), .int .i64 ((rd_T31 l0 x12_1).f1), .int .i64 0, .string (⟨#[]⟩ : ByteArray)]) ?_ 2 _ rfl; (with_reducible repeat (first | refine blk_drewN ?_ _ | refine blk_drew ?_ | refine blk_alloc ?_ _)); refine blk_put (cs := #[.int .i64 ((rd_T31 l0 x12_1).f0), .int .i64 0, .int .i64 0, .string (⟨#[]⟩ : ByteArray)]) ?_ 1 _ rfl; (with_reducible repeat (first | refine blk_drewN ?_ _ | refine blk_drew ?_ | refine blk_alloc ?_ _)); refine blk_put (cs := #[.int .i64 0, .int .i64 0, .int .i64 0, .string (⟨#[]⟩ : ByteArray)]) ?_ 0 _ rfl; (with_reducible repeat (first | refine blk_drewN ?_ _ | refine blk_drew ?_ | refine blk_alloc ?_ _)); exact BK174.out) hg (Kd.R_away HO_3.out (fun _ hk => hk.2))); have n1_ := Aside0.mk (hb); have n2_ := Aside0.mk (ho); clear BK174; clear HB; clear HO_3; have BK174 := n0_; have HB := n1_; have HO177 := n2_; clear n0_ n1_ n2_; clear ho hb hg hat))
        go_roundg k1
        case measure => have := HK1.out; omega
        case rel => exact ⟨(y175), (false), (wrap64 (x12_1 + 1)), (by first | rfl | (simp; done) | (simp [*]; done)), (by first | rfl | (simp; done) | (simp [*]; done)), H', ⟨by have := HK1.out; omega⟩, ⟨by (with_reducible repeat (first | apply Kd.R_alloc | apply Kd.R_drewN | apply Kd.R_drew)); exact Kd.R_mono HO177.out (fun _ hk => trivial)⟩, ⟨by repeat (first | (with_reducible first | exact HB.out | apply below_alloc | apply pw_below_drewN | apply below_drew1 | refine below_set ?_ GE174.out) | exact HB.out)⟩⟩
       ·rw [if_neg c38] at H
        exact absurd H (by simp)
     ·rw [if_neg c4] at H
      exact absurd H (by simp)
    ·rw [if_neg c3] at H
     exact absurd H (by simp)
   ·rw [if_neg c2] at H
    have c2b0 : decide (x12_1 < (l0.length : Int)) = false := decide_eq_false c2
    clear c2
    obtain rfl := Option.some.inj H
    go_wp2
    go_ret
    exact ⟨_, zr, by (with_reducible repeat (first | apply Kd.R_alloc | apply Kd.R_drewN | apply Kd.R_drew)); exact HO_3.out, by repeat (first | (with_reducible first | exact HB.out | apply below_alloc | apply pw_below_drewN | apply below_drew1) | exact HB.out)⟩

/-! ### emit_Clean: function 20 -/
def emit_Clean.f (k : Nat) (a0 : ByteArray) : Option (Bool) := (emit_Parse.f k a0).bind fun bt190 => (some (bt190.2 == 0))
theorem emit_Clean.mono : ∀ a0 k, LeO (emit_Clean.f k a0) (emit_Clean.f (k + 1) a0) := by
 intro a0 k
 unfold emit_Clean.f
 repeat' first
   | (with_reducible exact emit_Parse.mono _ _)
   | (with_reducible exact LeO.refl _)
   | (with_reducible exact LeO.none _)
   | (with_reducible refine LeO.ite ?_ ?_)
   | (with_reducible refine LeO.bind ?_ (fun _ => ?_))
   | exact emit_Parse.mono _ _
   | exact LeO.none _
   | refine LeO.ite ?_ ?_
   | refine LeO.bind ?_ (fun _ => ?_)
set_option maxHeartbeats 8000000 in
set_option maxRecDepth 100000 in
theorem emit_Clean.calls (k : Nat) (a0 : ByteArray) (r : Bool) (w : World) (h : emit_Clean.f k a0 = some r) :
  Calls Try.prog 20 #[.string a0] w fun e w' => e = .returned (.bool r) ∧ Below w.heap.size w w' := by
 have HB := Aside0.mk (Below.refl w.heap.size w)
 have H : ((emit_Parse.f k a0).bind fun bt190 => (some (bt190.2 == 0))) = some r := h
 clear h
 replace H := Option.bind_eq_some_iff.mp H
 obtain ⟨⟨t190, t191⟩, A20, H⟩ := H
 replace H : (some (t191 == 0)) = some r := H
 have A2 := Aside0.mk A20
 clear A20
 obtain rfl := Option.some.inj H
 go_enter Try.func20, Try.ntmps20
 go_wp2_with (first | ((with_reducible refine gate_callee (f := 15) rfl ?_); refine goesL_ (some 7) rfl rfl Try.func15 (by kernel_rfl) rfl #[.string a0] rfl zl ?_; (with_reducible refine (emit_Parse.calls k a0 t190 t191 _ A2.out).mono ?_); rintro e w3 ⟨v192, rfl, ho0, hb⟩; refine ⟨_, rfl, ?_⟩; have n0_ := Aside0.mk (Kd.R_lower ho0 (below_size zb)); have n1_ := Aside0.mk (below_step zb hb); clear HB; have HO193 := n0_; have HB := n1_; clear n0_ n1_; (try clear hb); (try clear hb2); (try clear hk); (try clear hi); (try clear ho0)))
 go_ret
 exact ⟨zr, zb⟩

end Go.Proofs.Ytddkmhkglmcihaa.PAll
