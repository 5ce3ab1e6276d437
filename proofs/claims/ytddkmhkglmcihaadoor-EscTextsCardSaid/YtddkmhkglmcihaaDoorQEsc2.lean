/- Plain facts on lines of signs (sign, esc): the program and the reference tell the same. -/
import Derived.Test.YtddkmhkglmcihaaDoorPAllx3
import Derived.Test.YtddkmhkglmcihaaDoorPAllx6
import Derived.Test.YtddkmhkglmcihaaDoorPAllx2
import Derived.Test.YtddkmhkglmcihaaDoorPAllx5
import Derived.Test.YtddkmhkglmcihaaDoorQBytes
import Derived.Test.YtddkmhkglmcihaaDoorQEsc1
set_option linter.unusedVariables false
set_option linter.unusedSimpArgs false
namespace Go.Proofs.YtddkmhkglmcihaaDoor.Q
open Go.RowKit Go.Proofs.YtddkmhkglmcihaaDoor.PAll Go.Proofs.YtddkmhkglmcihaaDoorW.PrintWords Go.Proofs.YtddkmhkglmcihaaDoorW.PrintLast Go.Proofs.YtddkmhkglmcihaaDoorW.PrintMore
abbrev Sg := S41
theorem rdS_at (l : List Sg) (i : Nat) (h : i < l.length) : rd_T41 l (i : Int) = l[i] := by
  unfold rd_T41
  rw [Int.toNat_natCast, List.getD_eq_getElem?_getD, List.getElem?_eq_getElem h]
  rfl
theorem w64_succ (i : Nat) (h : i < 9223372036854775807) : wrap64 ((i : Int) + 1) = ((i + 1 : Nat) : Int) := by
  unfold wrap64
  omega
/-- May a sign be? -/
def okS (x : Sg) : Bool := okV x.f0 && decide (0 ≤ x.f1 ∧ x.f1 ≤ 5)
/-- A line's letters. -/
def lineS (l : List Sg) : List UInt8 := (l.map fun x => letS x.f0).flatten
theorem lineS_cons (x : Sg) (l : List Sg) : lineS (x :: l) = letS x.f0 ++ lineS l := by simp [lineS]
theorem lineS_len (l : List Sg) : (lineS l).length ≤ 8 * l.length := by
  induction l with
  | nil => exact Nat.le_refl _
  | cons x l ih => rw [lineS_cons, List.length_append, List.length_cons]; have := (letS_len x.f0).2; omega
theorem lineS_bytes (l : List Sg) : ∀ x ∈ lineS l, 32 ≤ x.toNat ∧ x.toNat ≤ 126 := by
  induction l with
  | nil => intro x hx; cases hx
  | cons y l ih =>
    intro x hx
    rw [lineS_cons] at hx
    rcases List.mem_append.mp hx with hx | hx
    · exact letS_bytes _ x hx
    · exact ih x hx
theorem point_eq (v : Int) : utf_point.f v = some (decide ((0 ≤ v ∧ v < 55296) ∨ (57343 < v ∧ v ≤ 1114111))) := by
  unfold utf_point.f
  repeat' split
  all_goals first
    | exact congrArg some (decide_eq_true (by omega)).symm
    | exact congrArg some (decide_eq_false (by omega)).symm
    | exact congrArg some (decide_eq_decide.mpr (by omega))
theorem right_eq (v : Int) : utf_Right.f v = some (okV v) := by
  unfold utf_Right.f okV
  rw [point_eq]
  simp only [Option.bind_some, decide_eq_true_eq]
  repeat' split
  all_goals first
    | exact congrArg some (decide_eq_true (by omega)).symm
    | exact congrArg some (decide_eq_false (by omega)).symm
    | exact congrArg some (decide_eq_decide.mpr (by omega))
theorem right_ref (v : Int) : dactylref02_Right.f v = some (okV v) := by
  unfold dactylref02_Right.f okV
  repeat' split
  all_goals first
    | exact congrArg some (decide_eq_true (by omega)).symm
    | exact congrArg some (decide_eq_false (by omega)).symm
    | exact congrArg some (decide_eq_decide.mpr (by omega))
theorem sright_eq (x : Sg) : sign_Right.f x.f0 x.f1 = some (okS x) := by
  unfold sign_Right.f okS
  rw [right_eq]
  simp only [Option.bind_some]
  cases okV x.f0 with
  | false => rfl
  | true =>
    rw [if_pos rfl, Bool.true_and]
    repeat' split
    all_goals first
      | exact congrArg some (decide_eq_true (by omega)).symm
      | exact congrArg some (decide_eq_false (by omega)).symm
      | exact congrArg some (decide_eq_decide.mpr (by omega))
theorem sright_ref (x : Sg) : dactylref04_Right.f x.f0 x.f1 = some (okS x) := by
  unfold dactylref04_Right.f okS
  rw [right_ref]
  simp only [Option.bind_some]
  cases okV x.f0 with
  | false => rfl
  | true =>
    rw [if_pos rfl, Bool.true_and]
    repeat' split
    all_goals first
      | exact congrArg some (decide_eq_true (by omega)).symm
      | exact congrArg some (decide_eq_false (by omega)).symm
      | exact congrArg some (decide_eq_decide.mpr (by omega))
theorem check_sign (l : List Sg) (h : l.length < 9223372036854775807) : sign_Check.f l = some (if l.all okS = true then 0 else 2) := by
  unfold sign_Check.f
  rw [if_pos (List.all_eq_true.mpr (fun x _ => by rw [sright_eq]; rfl)), if_pos h]
  have e : l.any sign_Check.p = !(l.all okS) := by
    induction l with
    | nil => rfl
    | cons x l ih =>
      have hx : sign_Check.p x = !(okS x) := by
        unfold sign_Check.p
        rw [sright_eq]
        rfl
      rw [List.any_cons, List.all_cons, hx, ih (by rw [List.length_cons] at h; omega), Bool.not_and]
  rw [e]
  cases l.all okS <;> rfl
theorem all_sign (l : List Sg) (k : Nat) (hl : l.length < 9223372036854775807) (hk : l.length < k) : dactylref04_All.f k l = some (l.all okS) := by
  have key : ∀ (n k i : Nat), l.length - i ≤ n → n < k → i ≤ l.length → dactylref04_All.l0 k l (i : Int) = some ((l.drop i).all okS) := by
    intro n
    induction n with
    | zero =>
      intro k i h0 hk hi
      obtain ⟨k, rfl⟩ : ∃ m, k = m + 1 := ⟨k - 1, by omega⟩
      simp only [dactylref04_All.l0]
      rw [if_neg (by omega), List.drop_eq_nil_of_le (by omega)]
      rfl
    | succ n ih =>
      intro k i h0 hk hi
      obtain ⟨k, rfl⟩ : ∃ m, k = m + 1 := ⟨k - 1, by omega⟩
      simp only [dactylref04_All.l0]
      by_cases c : i < l.length
      · rw [if_pos (by omega), if_pos (by omega), rdS_at l i c, sright_ref, List.drop_eq_getElem_cons c, List.all_cons, w64_succ i (by omega)]
        simp only [Option.bind_some]
        cases okS l[i] with
        | false => rfl
        | true =>
          rw [if_pos rfl, ih k (i + 1) (by omega) (by omega) (by omega)]
          rfl
      · rw [if_neg (by omega), List.drop_eq_nil_of_le (by omega)]
        rfl
  have := key l.length k 0 (by omega) hk (by omega)
  simpa [dactylref04_All.f] using this
theorem line_prog (l : List Sg) (hl : l.length ≤ 100000) (k : Nat) (hk : l.length + 30 ≤ k) (ha : l.all okS = true) : ∃ b, esc_Line.f k l = some (b, 0) ∧ L b = lineS l := by
  have key : ∀ (n k i : Nat) (acc : ByteArray), l.length - i ≤ n → n + 25 ≤ k → i ≤ l.length → acc.size ≤ 8 * i → ∃ b, esc_Line.l0 k acc l (l.length : Int) (i : Int) = some (b, 0) ∧ L b = L acc ++ lineS (l.drop i) := by
    intro n
    induction n with
    | zero =>
      intro k i acc h0 hk hi hs
      obtain ⟨k, rfl⟩ : ∃ m, k = m + 1 := ⟨k - 1, by omega⟩
      simp only [esc_Line.l0]
      rw [if_neg (by omega), List.drop_eq_nil_of_le (by omega)]
      exact ⟨acc, rfl, by simp [lineS]⟩
    | succ n ih =>
      intro k i acc h0 hk hi hs
      obtain ⟨k, rfl⟩ : ∃ m, k = m + 1 := ⟨k - 1, by omega⟩
      simp only [esc_Line.l0]
      by_cases c : i < l.length
      · have hok : okV l[i].f0 = true := by
          have := List.all_eq_true.mp ha l[i] (List.getElem_mem c)
          unfold okS at this
          exact (Bool.and_eq_true _ _ ▸ this).1
        obtain ⟨b, h1, h2⟩ := letters_prog k l[i].f0 hok (by omega)
        have hb : b.size ≤ 8 := by rw [← L_len, h2]; exact (letS_len _).2
        obtain ⟨r, h3, h4⟩ := ih k (i + 1) (acc ++ b) (by omega) (by omega) (by omega) (by rw [ByteArray.size_append]; omega)
        refine ⟨r, ?_, ?_⟩
        · rw [if_pos (by omega), if_pos (by omega), if_pos (by omega), rdS_at l i c, h1]
          simp only [Option.bind_some]
          rw [if_pos (by omega), w64_succ i (by omega), h3]
        · rw [h4, L_app, h2, List.drop_eq_getElem_cons c, lineS_cons, List.append_assoc]
      · rw [if_neg (by omega), List.drop_eq_nil_of_le (by omega)]
        exact ⟨acc, rfl, by simp [lineS]⟩
  obtain ⟨b, h1, h2⟩ := key l.length k 0 ⟨#[]⟩ (by omega) (by omega) (by omega) (by decide)
  refine ⟨b, ?_, h2.trans (by rw [List.drop_zero]; rfl)⟩
  unfold esc_Line.f
  rw [check_sign l (by omega), if_pos ha]
  simpa using h1
theorem line_bad (l : List Sg) (hl : l.length ≤ 100000) (k : Nat) (ha : ¬ l.all okS = true) : esc_Line.f k l = some (⟨#[]⟩, 2) := by
  unfold esc_Line.f
  rw [check_sign l (by omega), if_neg ha]
  rfl
theorem nums_back (b : List UInt8) : L (strOfNums (b.map fun c => (c.toNat : Int))) = b := by
  have e : ((fun n : Int => UInt8.ofNat n.toNat) ∘ fun c : UInt8 => (c.toNat : Int)) = id := by
    funext c
    simp
  unfold L strOfNums
  simp only [List.map_map]
  rw [e, List.map_id]
theorem line_ref (l : List Sg) (hl : l.length ≤ 100000) (k : Nat) (hk : l.length + 30 ≤ k) (ha : l.all okS = true) : ∃ b, dactylref22_Line.f k l = some b ∧ L b = lineS l := by
  have key : ∀ (n k i : Nat) (acc : List UInt8), l.length - i ≤ n → n + 25 ≤ k → i ≤ l.length → acc.length ≤ 8 * i → ∃ b, dactylref22_Line.l0 k l (acc.map fun c => (c.toNat : Int)) (i : Int) = some b ∧ L b = acc ++ lineS (l.drop i) := by
    intro n
    induction n with
    | zero =>
      intro k i acc h0 hk hi hs
      obtain ⟨k, rfl⟩ : ∃ m, k = m + 1 := ⟨k - 1, by omega⟩
      simp only [dactylref22_Line.l0]
      rw [if_neg (by omega), List.drop_eq_nil_of_le (by omega)]
      exact ⟨_, rfl, by rw [nums_back]; simp [lineS]⟩
    | succ n ih =>
      intro k i acc h0 hk hi hs
      obtain ⟨k, rfl⟩ : ∃ m, k = m + 1 := ⟨k - 1, by omega⟩
      simp only [dactylref22_Line.l0]
      by_cases c : i < l.length
      · have hok : okV l[i].f0 = true := by
          have := List.all_eq_true.mp ha l[i] (List.getElem_mem c)
          unfold okS at this
          exact (Bool.and_eq_true _ _ ▸ this).1
        obtain ⟨b, h1, h2⟩ := letters_ref k l[i].f0 hok (by omega)
        have hb : b.size ≤ 8 := by rw [← L_len, h2]; exact (letS_len _).2
        have eb : (acc.map fun c => (c.toNat : Int)) ++ dactylref22_Line.b b = (acc ++ L b).map fun c => (c.toNat : Int) := by rw [List.map_append]; rfl
        obtain ⟨r, h3, h4⟩ := ih k (i + 1) (acc ++ L b) (by omega) (by omega) (by omega) (by rw [List.length_append, L_len]; omega)
        refine ⟨r, ?_, ?_⟩
        · rw [if_pos (by omega), if_pos (by omega), rdS_at l i c, h1]
          simp only [Option.bind_some]
          rw [if_pos (by rw [List.length_map]; omega), w64_succ i (by omega), eb, h3]
        · rw [h4, h2, List.drop_eq_getElem_cons c, lineS_cons, List.append_assoc]
      · rw [if_neg (by omega), List.drop_eq_nil_of_le (by omega)]
        exact ⟨_, rfl, by rw [nums_back]; simp [lineS]⟩
  obtain ⟨b, h1, h2⟩ := key l.length k 0 [] (by omega) (by omega) (by omega) (by decide)
  exact ⟨b, h1, by simpa using h2⟩
/-- Signs with a label. -/
def withS (l : List Sg) (a : Int) : List Sg := l.map fun x => ⟨x.f0, a⟩
theorem with_ref (l : List Sg) (a : Int) (hl : l.length ≤ 100000) (k : Nat) (hk : l.length < k) : dactylref04_With.f k l a = some (withS l a) := by
  have key : ∀ (n k i : Nat) (acc : List Sg), l.length - i ≤ n → n < k → i ≤ l.length → acc.length ≤ i → dactylref04_With.l0 k l a acc (i : Int) = some (acc ++ withS (l.drop i) a) := by
    intro n
    induction n with
    | zero =>
      intro k i acc h0 hk hi hs
      obtain ⟨k, rfl⟩ : ∃ m, k = m + 1 := ⟨k - 1, by omega⟩
      simp only [dactylref04_With.l0]
      rw [if_neg (by omega), List.drop_eq_nil_of_le (by omega)]
      simp [withS]
    | succ n ih =>
      intro k i acc h0 hk hi hs
      obtain ⟨k, rfl⟩ : ∃ m, k = m + 1 := ⟨k - 1, by omega⟩
      simp only [dactylref04_With.l0]
      by_cases c : i < l.length
      · rw [if_pos (by omega), if_pos (by omega), if_pos (by omega), rdS_at l i c, w64_succ i (by omega), ih k (i + 1) _ (by omega) (by omega) (by omega) (by simp; omega), List.drop_eq_getElem_cons c, show withS (l[i] :: l.drop (i + 1)) a = ⟨l[i].f0, a⟩ :: withS (l.drop (i + 1)) a from rfl, List.append_assoc]
        rfl
      · rw [if_neg (by omega), List.drop_eq_nil_of_le (by omega)]
        simp [withS]
  have := key l.length k 0 [] (by omega) hk (by omega) (by decide)
  simpa [dactylref04_With.f] using this
instance : DecidableEq Sg := fun a b => decidable_of_iff (a.f0 = b.f0 ∧ a.f1 = b.f1) ⟨fun h => by cases a; cases b; simp only at h; rw [h.1, h.2], fun h => by rw [h]; exact ⟨rfl, rfl⟩⟩
theorem same_sign (a b : List Sg) (ha : a.length ≤ 100000) (k : Nat) (hk : a.length < k) : dactylref04_Same.f k a b = some (decide (a = b)) := by
  unfold dactylref04_Same.f
  by_cases hl : a.length = b.length
  · rw [if_pos (by omega)]
    have key : ∀ (n k i : Nat), a.length - i ≤ n → n < k → i ≤ a.length → dactylref04_Same.l0 k a b (i : Int) = some (decide (a.drop i = b.drop i)) := by
      intro n
      induction n with
      | zero =>
        intro k i h0 hk hi
        obtain ⟨k, rfl⟩ : ∃ m, k = m + 1 := ⟨k - 1, by omega⟩
        simp only [dactylref04_Same.l0]
        rw [if_neg (by omega), List.drop_eq_nil_of_le (by omega), List.drop_eq_nil_of_le (by omega)]
        rfl
      | succ n ih =>
        intro k i h0 hk hi
        obtain ⟨k, rfl⟩ : ∃ m, k = m + 1 := ⟨k - 1, by omega⟩
        simp only [dactylref04_Same.l0]
        by_cases c : i < a.length
        · have cb : i < b.length := by omega
          have ea : a.drop i = a[i] :: a.drop (i + 1) := List.drop_eq_getElem_cons c
          have eb : b.drop i = b[i] :: b.drop (i + 1) := List.drop_eq_getElem_cons cb
          rw [if_pos (by omega), if_pos (by omega), if_pos (by omega), rdS_at a i c, rdS_at b i cb, w64_succ i (by omega), ih k (i + 1) (by omega) (by omega) (by omega), ea, eb]
          clear ea eb
          generalize a[i] = x
          generalize b[i] = y
          generalize a.drop (i + 1) = p
          generalize b.drop (i + 1) = q
          by_cases e : x = y
          · subst e
            simp
          · have e2 : (!(x.f0 == y.f0) || !(x.f1 == y.f1)) = true := by
              cases h1 : (x.f0 == y.f0) with
              | false => rfl
              | true =>
                cases h2 : (x.f1 == y.f1) with
                | false => rfl
                | true =>
                  exact absurd (by
                    have g1 := beq_iff_eq.mp h1
                    have g2 := beq_iff_eq.mp h2
                    cases x
                    cases y
                    simp only at g1 g2
                    rw [g1, g2]) e
            rw [if_pos e2]
            simp [e]
        · rw [if_neg (by omega), List.drop_eq_nil_of_le (by omega), List.drop_eq_nil_of_le (by omega)]
          rfl
    have := key a.length k 0 (by omega) hk (by omega)
    simpa using this
  · rw [if_neg (by omega), decide_eq_false (fun h => hl (by rw [h]))]
end Go.Proofs.YtddkmhkglmcihaaDoor.Q
