/- Plain facts: which pieces may be, and their bytes: the program and the reference tell the same. -/
import Derived.Test.YtddkmhkglmcihaaPAllx4
import Derived.Test.YtddkmhkglmcihaaPAllx6
import Derived.Test.YtddkmhkglmcihaaPAllx12
import Derived.Test.YtddkmhkglmcihaaPAllx13
import Derived.Test.YtddkmhkglmcihaaPAllx5
import Derived.Test.YtddkmhkglmcihaaQClass
import Derived.Test.YtddkmhkglmcihaaQVals
set_option linter.unusedVariables false
set_option linter.unusedSimpArgs false
namespace Go.Proofs.Ytddkmhkglmcihaa.Q
open Go.RowKit Go.Proofs.Ytddkmhkglmcihaa.PAll Go.Proofs.YtddkmhkglmcihaaW.PrintWords Go.Proofs.YtddkmhkglmcihaaW.PrintLast Go.Proofs.YtddkmhkglmcihaaW.PrintMore
abbrev O := S31
/-- Is a text shown as it is? -/
def plainT (l : List UInt8) : Bool := (!l.isEmpty) && (vals l).all fun v => widS v != 0
theorem any_p (l : List Int) : (!(l.any emit_plain.p)) = l.all fun v => widS v != 0 := by
  induction l with
  | nil => rfl
  | cons v l ih =>
    have hv : emit_plain.p v = (widS v == 0) := by
      unfold emit_plain.p
      rw [prog_wid 100 v (by omega)]
      rfl
    rw [List.any_cons, List.all_cons, Bool.not_or, ih, hv]
    rfl
theorem plain_eq (s : ByteArray) (h : s.size < 17592186044416) : emit_plain.f s = some (plainT (L s)) := by
  unfold emit_plain.f plainT
  rw [tl]
  cases hl : L s with
  | nil => rfl
  | cons x l =>
    rw [if_neg (by simp), prog_dec s h, hl]
    simp only [Option.bind_some]
    have hw : ∀ v, class_Width.f 100 v = some (widS v) := fun v => prog_wid 100 v (by omega)
    simp only [hw, Option.isSome_some]
    have h1 : ((vals (x :: l)).all fun _ => true) = true := by simp
    have h2 : (vals (x :: l)).length < 9223372036854775807 := by
      have := vals_len (x :: l)
      have h3 : (L s).length = s.size := rfl
      rw [hl] at h3
      omega
    rw [if_pos h1, if_pos h2, any_p]
    simp only [List.isEmpty_cons, Bool.not_false, Bool.true_and]
/-- May a piece be? -/
def mayB (o : O) : Bool :=
  if o.f0 = 0 then decide (o.f1 = 0) && decide (o.f2 = 0) && plainT (L o.f3)
  else (L o.f3).isEmpty && (if o.f0 = 1 then decide (1 ≤ o.f1 ∧ o.f1 ≤ 1000 ∧ 1 ≤ o.f2 ∧ o.f2 ≤ 1000)
    else decide (o.f2 = 0) && (if o.f0 = 4 then decide (0 ≤ o.f1 ∧ o.f1 ≤ 7) else if o.f0 = 5 then decide (0 ≤ o.f1 ∧ o.f1 ≤ 1) else decide (o.f1 = 0) && decide (o.f0 = 2 ∨ o.f0 = 3 ∨ o.f0 = 6 ∨ o.f0 = 7 ∨ o.f0 = 8)))
theorem empty_iff (s : ByteArray) : s.toList = [] ↔ (L s).isEmpty = true := by rw [tl, List.isEmpty_iff]
theorem check_eq (o : O) (h : o.f3.size < 17592186044416) : emit_Check.f o.f0 o.f1 o.f2 o.f3 = some (if mayB o = true then 0 else 2) := by
  obtain ⟨k, n, m, t⟩ := o
  simp only at h ⊢
  unfold emit_Check.f mayB emit_Check.none_
  simp only [empty_iff, plain_eq t h, Option.bind_some]
  generalize plainT (L t) = p
  generalize (L t).isEmpty = e
  by_cases c0 : k = 0
  · subst c0
    cases p <;> simp <;> (repeat' split) <;> simp_all
  · simp only [if_neg c0]
    cases e with
    | false =>
      repeat' split
      all_goals simp_all
    | true =>
      repeat' split
      all_goals first | (simp_all; done) | (simp_all; omega)
theorem cols_l0 (vs : List Int) : ∀ (n k i : Nat) (acc : Int), vs.length - i ≤ n → n + 200 ≤ k → i ≤ vs.length → vs.length < 17592186044416 → 0 ≤ acc → acc ≤ 2 * i →
    ∃ r, dactylref10_Cols.l0 k vs acc (i : Int) = some r ∧ (decide (r ≥ 0) = (vs.drop i).all fun v => widS v != 0) := by
  intro n
  induction n with
  | zero =>
    intro k i acc hi hk hle hb h0 h1
    obtain ⟨k, rfl⟩ : ∃ m, k = m + 1 := ⟨k - 1, by omega⟩
    refine ⟨acc, ?_, ?_⟩
    · simp only [dactylref10_Cols.l0]
      rw [if_neg (by omega)]
    · rw [List.drop_eq_nil_of_le (by omega)]
      simpa using h0
  | succ n ih =>
    intro k i acc hi hk hle hb h0 h1
    obtain ⟨k, rfl⟩ : ∃ m, k = m + 1 := ⟨k - 1, by omega⟩
    by_cases c : i < vs.length
    · have r1 : rd vs (i : Int) = vs[i] := by
        unfold rd
        rw [Int.toNat_natCast, List.getD_eq_getElem?_getD, List.getElem?_eq_getElem c]
        rfl
      have w := wid_range vs[i]
      have w1 : wrap64 ((i : Int) + 1) = ((i + 1 : Nat) : Int) := by unfold wrap64; omega
      have w2 : wrap64 (acc + widS vs[i]) = acc + widS vs[i] := by unfold wrap64; omega
      have z := wid_0 vs[i]
      simp only [dactylref10_Cols.l0]
      rw [if_pos (by omega), if_pos (by omega), r1, ref_of k _ (by omega), List.drop_eq_getElem_cons c, List.all_cons]
      simp only [Option.bind_some]
      by_cases d1 : ofS vs[i] < 1
      · rw [if_pos d1]
        have : widS vs[i] = 0 := z.mpr (by omega)
        exact ⟨-1, rfl, by rw [this]; simp⟩
      · rw [if_neg d1]
        by_cases d2 : ofS vs[i] > 3
        · rw [if_pos d2]
          have : widS vs[i] = 0 := z.mpr (by omega)
          exact ⟨-1, rfl, by rw [this]; simp⟩
        · rw [if_neg d2, ref_wid k _ (by omega)]
          simp only [Option.bind_some]
          rw [w1, w2]
          obtain ⟨r, hr, hq⟩ := ih k (i + 1) (acc + widS vs[i]) (by omega) (by omega) (by omega) hb (by omega) (by omega)
          refine ⟨r, hr, ?_⟩
          have : ¬ widS vs[i] = 0 := fun h => by have := z.mp h; omega
          rw [hq]
          simp [this]
    · refine ⟨acc, ?_, ?_⟩
      · simp only [dactylref10_Cols.l0]
        rw [if_neg (by omega)]
      · rw [List.drop_eq_nil_of_le (by omega)]
        simpa using h0
theorem may_eq_ref (k : Nat) (o : O) (h : o.f3.size < 1000000) (hk : o.f3.size + 300 ≤ k) : dactylref10_May.f k o.f0 o.f1 o.f2 o.f3 = some (mayB o) := by
  obtain ⟨q, n, m, t⟩ := o
  simp only at h hk ⊢
  obtain ⟨k, rfl⟩ : ∃ m, k = m + 1 := ⟨k - 1, by omega⟩
  have hc : ∃ r, dactylref10_Cols.f k t = some r ∧ (decide (r ≥ 0) = (vals (L t)).all fun v => widS v != 0) := by
    unfold dactylref10_Cols.f
    rw [ref_dec k t (by omega) (by omega)]
    simp only [Option.bind_some]
    have hl := vals_len (L t)
    have : (L t).length = t.size := rfl
    obtain ⟨r, h1, h2⟩ := cols_l0 (vals (L t)) (vals (L t)).length k 0 0 (by omega) (by omega) (by omega) (by omega) (by omega) (by omega)
    exact ⟨r, h1, h2⟩
  obtain ⟨r, hr, hq⟩ := hc
  unfold dactylref10_May.f mayB plainT
  simp only [dactylref10_May.j0, decide_eq_true_eq, if_true, hr, Option.bind_some, hq, empty_iff]
  generalize ((vals (L t)).all fun v => widS v != 0) = p
  generalize (L t).isEmpty = e
  by_cases c0 : q = 0
  · subst c0
    cases e <;> cases p <;> simp <;> (repeat' split) <;> simp_all
  · cases e with
    | false =>
      repeat' split
      all_goals simp_all
    | true =>
      simp only [Bool.true_and, if_neg c0, if_true]
      by_cases c1 : q = 1
      · subst c1
        simp only [if_true]
        rw [if_neg (by omega), if_neg (by omega)]
        repeat' split
        all_goals first
          | exact congrArg some (decide_eq_false (by omega)).symm
          | exact congrArg some (decide_eq_decide.mpr (by omega))
      simp only [if_neg c1]
      by_cases c4 : q = 4
      · subst c4
        simp only [if_true]
        rw [if_neg (by omega), if_neg (by omega)]
        repeat' split
        all_goals simp_all
        all_goals omega
      simp only [if_neg c4]
      by_cases c5 : q = 5
      · subst c5
        simp only [if_true]
        rw [if_neg (by omega), if_neg (by omega)]
        by_cases cm : m = 0
        · rw [if_pos cm]
          simp only [cm, decide_true, Bool.true_and]
          by_cases cn : n = 0
          · rw [if_pos cn]
            exact congrArg some (decide_eq_true (by omega)).symm
          · rw [if_neg cn]
            congr 1
            rw [Bool.eq_iff_iff, beq_iff_eq, decide_eq_true_eq]
            omega
        · rw [if_neg cm]
          simp [cm]
      simp only [if_neg c5]
      by_cases cl : q < 0
      · rw [if_pos cl, decide_eq_false (show ¬ (q = 2 ∨ q = 3 ∨ q = 6 ∨ q = 7 ∨ q = 8) by omega)]
        simp
      · rw [if_neg cl]
        by_cases cg : q > 8
        · rw [if_pos cg, decide_eq_false (show ¬ (q = 2 ∨ q = 3 ∨ q = 6 ∨ q = 7 ∨ q = 8) by omega)]
          simp
        · rw [if_neg cg, decide_eq_true (show (q = 2 ∨ q = 3 ∨ q = 6 ∨ q = 7 ∨ q = 8) by omega)]
          by_cases cm : m = 0
          · rw [if_pos cm]
            simp only [cm, decide_true, Bool.true_and, Bool.and_true]
            rfl
          · rw [if_neg cm]
            simp [cm]

/-- A number's digits, as the program tells them. -/
def dec (n : Int) : List UInt8 := L ((num_Dec.f n).getD ⟨#[]⟩)
/-- What is to be known of each number from 1 to 1000. -/
def decOK (n : Nat) : Bool := match num_Dec.f (n : Int) with
  | some s => decide (1 ≤ s.size) && decide (s.size ≤ 4) && s.data.toList.all (fun c => decide (48 ≤ c.toNat ∧ c.toNat ≤ 57)) && (match dactylref01_Dec.f 10 (n : Int) with
    | some t => decide (t = s)
    | none => false) && (match num_Undec.f 30 s with
    | some (m, e) => decide (m = (n : Int)) && decide (e = 0)
    | none => false)
  | none => false
set_option maxRecDepth 100000 in
theorem dec_all : (List.range 1001).all (fun n => decide (n = 0) || decOK n) = true := by decide +kernel
end Go.Proofs.Ytddkmhkglmcihaa.Q
