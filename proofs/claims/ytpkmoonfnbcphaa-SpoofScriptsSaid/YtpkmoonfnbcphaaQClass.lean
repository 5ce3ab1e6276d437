/- Plain facts: the class of a value, as the program tells it and as the reference tells it, is one. -/
import Derived.Test.YtpkmoonfnbcphaaPAllx2
import Derived.Test.YtpkmoonfnbcphaaPAllx7
set_option linter.unusedVariables false
set_option linter.unusedSimpArgs false
namespace Go.Proofs.Ytpkmoonfnbcphaa.Q
open Go.RowKit Go.Proofs.Ytpkmoonfnbcphaa.PAll Go.Proofs.YtpkmoonfnbcphaaW.PrintWords Go.Proofs.YtpkmoonfnbcphaaW.PrintLast Go.Proofs.YtpkmoonfnbcphaaW.PrintMore
/-- The first span's class, or none. -/
def cls (v : Int) : List S92 → Option Int
  | [] => none
  | s :: l => if s.f0 ≤ v ∧ v ≤ s.f1 then some s.f2 else cls v l
theorem class_in_eq (v : Int) (l : List S92) (hl : l.length < 9223372036854775807) : class_in.f v l = some ((cls v l).getD 0) := by
  have key : ∀ (l : List S92) (i : Nat), (idx_span.g (class_in.p v) l i < 0 ∧ cls v l = none) ∨ (∃ j : Nat, idx_span.g (class_in.p v) l i = ((i + j : Nat) : Int) ∧ cls v l = some (l.getD j z92).f2) := by
    intro l
    induction l with
    | nil => intro i; left; exact ⟨by simp [idx_span.g], rfl⟩
    | cons s l ih =>
      intro i
      by_cases h : s.f0 ≤ v ∧ v ≤ s.f1
      · right
        refine ⟨0, ?_, ?_⟩
        · simp [idx_span.g, class_in.p, h.1, h.2]
        · simp [cls, h.1, h.2]
      · have hp : ¬ class_in.p v s = true := by
          unfold class_in.p
          simp only [Bool.and_eq_true, decide_eq_true_eq]
          exact h
        rcases ih (i + 1) with ⟨h1, h2⟩ | ⟨j, h1, h2⟩
        · left
          simp only [idx_span.g, if_neg hp, cls, if_neg h]
          exact ⟨h1, h2⟩
        · right
          refine ⟨j + 1, ?_, ?_⟩
          · simp only [idx_span.g, if_neg hp]
            rw [h1]
            congr 1
            omega
          · simp only [cls, if_neg h]
            rw [h2]
            rfl
  unfold class_in.f
  rw [if_pos hl]
  rcases key l 0 with ⟨h1, h2⟩ | ⟨j, h1, h2⟩
  · rw [if_pos h1, h2]
    rfl
  · rw [h1, if_neg (by omega), h2]
    unfold rd_T92
    simp
/-- The first look's likeness, or none. -/
def lik (v : Int) : List S60 → Option Int
  | [] => none
  | s :: l => if s.f0 = v then some s.f1 else lik v l
theorem skel_eq (v : Int) (l : List S60) : (idx_look.g (class_Skeleton.p v) l 0 < 0 ∧ lik v l = none) ∨ (∃ j : Nat, idx_look.g (class_Skeleton.p v) l 0 = (j : Int) ∧ lik v l = some (l.getD j z60).f1) := by
  have key : ∀ (l : List S60) (i : Nat), (idx_look.g (class_Skeleton.p v) l i < 0 ∧ lik v l = none) ∨ (∃ j : Nat, idx_look.g (class_Skeleton.p v) l i = ((i + j : Nat) : Int) ∧ lik v l = some (l.getD j z60).f1) := by
    intro l
    induction l with
    | nil => intro i; left; exact ⟨by simp [idx_look.g], rfl⟩
    | cons s l ih =>
      intro i
      by_cases h : s.f0 = v
      · right
        refine ⟨0, ?_, ?_⟩
        · simp [idx_look.g, class_Skeleton.p, h]
        · simp [lik, h]
      · have hp : ¬ class_Skeleton.p v s = true := by
          unfold class_Skeleton.p
          simpa using h
        rcases ih (i + 1) with ⟨h1, h2⟩ | ⟨j, h1, h2⟩
        · left
          simp only [idx_look.g, if_neg hp, lik, if_neg h]
          exact ⟨h1, h2⟩
        · right
          refine ⟨j + 1, ?_, ?_⟩
          · simp only [idx_look.g, if_neg hp]
            rw [h1]
            congr 1
            omega
          · simp only [lik, if_neg h]
            rw [h2]
            rfl
  rcases key l 0 with h | ⟨j, h1, h2⟩
  · exact .inl h
  · exact .inr ⟨j, by rw [h1]; congr 1; omega, h2⟩

/-- In one of the ranges from, to, from, to. -/
def inR (v : Int) : List Int → Prop
  | a :: b :: l => (a ≤ v ∧ v ≤ b) ∨ inR v l
  | _ => False
instance inRdec (v : Int) : (l : List Int) → Decidable (inR v l)
  | [] => isFalse (fun h => h)
  | [_] => isFalse (fun h => h)
  | a :: b :: l => @instDecidableOr _ _ _ (inRdec v l)
theorem within_l0 (v : Int) (l : List Int) (hl : l.length < 1000) : ∀ (n k i : Nat), l.length - i ≤ n → n < k → i ≤ 1000 → dactylref03_within.l0 k v l (i : Int) = some (decide (inR v (l.drop i))) := by
  intro n
  induction n using Nat.strongRecOn with
  | _ n ih =>
    intro k i hi hk h1000
    obtain ⟨k, rfl⟩ : ∃ m, k = m + 1 := ⟨k - 1, by omega⟩
    have w1 : wrap64 ((i : Int) + 1) = ((i + 1 : Nat) : Int) := by unfold wrap64; omega
    have w2 : wrap64 ((i : Int) + 2) = ((i + 2 : Nat) : Int) := by unfold wrap64; omega
    simp only [dactylref03_within.l0, w1, w2]
    by_cases h : i + 1 < l.length
    · have e : l.drop i = l[i] :: l[i + 1] :: l.drop (i + 2) := by
        rw [List.drop_eq_getElem_cons (by omega), List.drop_eq_getElem_cons (by omega)]
      have r1 : rd l (i : Int) = l[i] := by
        unfold rd
        rw [Int.toNat_natCast, List.getD_eq_getElem?_getD, List.getElem?_eq_getElem (by omega)]
        rfl
      have r2 : rd l ((i + 1 : Nat) : Int) = l[i + 1] := by
        unfold rd
        rw [Int.toNat_natCast, List.getD_eq_getElem?_getD, List.getElem?_eq_getElem (by omega)]
        rfl
      have hn := ih (n - 2) (by omega) k (i + 2) (by omega) (by omega) (by omega)
      rw [if_pos (by omega), if_pos (by omega), if_pos (by omega), r1, r2, e]
      by_cases c1 : l[i] ≤ v
      · by_cases c2 : v ≤ l[i + 1]
        · rw [if_pos c1, if_pos (by omega), if_pos c2]
          congr 1
          exact (decide_eq_true (Or.inl ⟨c1, c2⟩ : inR v (l[i] :: l[i + 1] :: l.drop (i + 2)))).symm
        · rw [if_pos c1, if_pos (by omega), if_neg c2, hn]
          congr 1
          exact decide_eq_decide.mpr ⟨fun h => .inr h, fun h => h.elim (fun h => absurd h.2 c2) id⟩
      · rw [if_neg c1, hn]
        congr 1
        exact decide_eq_decide.mpr ⟨fun h => .inr h, fun h => h.elim (fun h => absurd h.1 c1) id⟩
    · rw [if_neg (by omega)]
      congr 1
      symm
      apply decide_eq_false
      intro hc
      rcases Nat.lt_or_ge i l.length with h1 | h1
      · rw [List.drop_eq_getElem_cons h1, List.drop_eq_nil_of_le (by omega)] at hc
        exact hc
      · rw [List.drop_eq_nil_of_le h1] at hc
        exact hc
theorem within_eq (k : Nat) (v : Int) (l : List Int) (hl : l.length < 1000) (hk : l.length < k) : dactylref03_within.f k v l = some (decide (inR v l)) := by
  have := within_l0 v l hl l.length k 0 (by omega) hk (by omega)
  simpa [dactylref03_within.f] using this

def oddS (v : Int) : Int := if v ≤ 31 then 4 else if v = 127 then 5 else if 128 ≤ v ∧ v ≤ 159 then 6 else if inR v [160, 160, 5760, 5760, 8192, 8202, 8232, 8233, 8239, 8239, 8287, 8287, 12288, 12288] then 10 else if inR v [173, 173, 6155, 6158, 8203, 8205, 8288, 8292, 65279, 65279, 65529, 65531] then 8 else if inR v [1564, 1564, 8206, 8207, 8234, 8238, 8294, 8297] then 7 else if inR v [768, 879, 1155, 1161, 1425, 1469, 1552, 1562, 1611, 1631, 1750, 1756, 6832, 6862, 7616, 7679, 8400, 8432, 12330, 12335, 12441, 12442, 65024, 65039, 65056, 65071] then 9 else if inR v [57344, 63743, 64976, 65007, 65520, 65528, 65534, 65535, 131070, 131071, 262142, 1114111] then 11 else 0
theorem odd_eq (k : Nat) (v : Int) (hk : 40 ≤ k) : dactylref03_odd.f k v = some (oddS v) := by
  obtain ⟨k, rfl⟩ : ∃ m, k = m + 1 := ⟨k - 1, by omega⟩
  unfold dactylref03_odd.f oddS
  by_cases c1 : v ≤ 31
  · rw [if_pos c1, if_pos c1]
  rw [if_neg c1, if_neg c1]
  by_cases c2 : v = 127
  · rw [if_pos c2, if_pos c2]
  rw [if_neg c2, if_neg c2]
  have tail : ∀ (b : Bool), dactylref03_odd.j0 (k + 1) v b = some (if b = true then 6 else if inR v [160, 160, 5760, 5760, 8192, 8202, 8232, 8233, 8239, 8239, 8287, 8287, 12288, 12288] then 10 else if inR v [173, 173, 6155, 6158, 8203, 8205, 8288, 8292, 65279, 65279, 65529, 65531] then 8 else if inR v [1564, 1564, 8206, 8207, 8234, 8238, 8294, 8297] then 7 else if inR v [768, 879, 1155, 1161, 1425, 1469, 1552, 1562, 1611, 1631, 1750, 1756, 6832, 6862, 7616, 7679, 8400, 8432, 12330, 12335, 12441, 12442, 65024, 65039, 65056, 65071] then 9 else if inR v [57344, 63743, 64976, 65007, 65520, 65528, 65534, 65535, 131070, 131071, 262142, 1114111] then 11 else 0) := by
    intro b
    simp only [dactylref03_odd.j0]
    cases b with
    | true => rfl
    | false =>
      rw [if_neg (by simp), if_neg (by simp)]
      rw [within_eq k v _ (by decide) (by simp only [List.length_cons, List.length_nil]; omega)]
      simp only [Option.bind_some, decide_eq_true_eq]
      by_cases g10 : inR v [160, 160, 5760, 5760, 8192, 8202, 8232, 8233, 8239, 8239, 8287, 8287, 12288, 12288]
      · rw [if_pos g10, if_pos g10]
      rw [if_neg g10, if_neg g10]
      rw [within_eq k v _ (by decide) (by simp only [List.length_cons, List.length_nil]; omega)]
      simp only [Option.bind_some, decide_eq_true_eq]
      by_cases g8 : inR v [173, 173, 6155, 6158, 8203, 8205, 8288, 8292, 65279, 65279, 65529, 65531]
      · rw [if_pos g8, if_pos g8]
      rw [if_neg g8, if_neg g8]
      rw [within_eq k v _ (by decide) (by simp only [List.length_cons, List.length_nil]; omega)]
      simp only [Option.bind_some, decide_eq_true_eq]
      by_cases g7 : inR v [1564, 1564, 8206, 8207, 8234, 8238, 8294, 8297]
      · rw [if_pos g7, if_pos g7]
      rw [if_neg g7, if_neg g7]
      rw [within_eq k v _ (by decide) (by simp only [List.length_cons, List.length_nil]; omega)]
      simp only [Option.bind_some, decide_eq_true_eq]
      by_cases g9 : inR v [768, 879, 1155, 1161, 1425, 1469, 1552, 1562, 1611, 1631, 1750, 1756, 6832, 6862, 7616, 7679, 8400, 8432, 12330, 12335, 12441, 12442, 65024, 65039, 65056, 65071]
      · rw [if_pos g9, if_pos g9]
      rw [if_neg g9, if_neg g9]
      rw [within_eq k v _ (by decide) (by simp only [List.length_cons, List.length_nil]; omega)]
      simp only [Option.bind_some, decide_eq_true_eq]
      by_cases g11 : inR v [57344, 63743, 64976, 65007, 65520, 65528, 65534, 65535, 131070, 131071, 262142, 1114111]
      · rw [if_pos g11, if_pos g11]
      rw [if_neg g11, if_neg g11]
  by_cases c3 : v ≥ 128
  · rw [if_pos c3, tail]
    by_cases c4 : v ≤ 159
    · rw [if_pos (decide_eq_true c4), if_pos ⟨c3, c4⟩]
    · rw [if_neg (by simpa using c4), if_neg (show ¬ (128 ≤ v ∧ v ≤ 159) from fun h => c4 h.2)]
  · rw [if_neg c3, tail, if_neg (fun h => by cases h), if_neg (show ¬ (128 ≤ v ∧ v ≤ 159) from fun h => c3 h.1)]

def spansL : List S92 := [(⟨0, 31, 4⟩ : S92), (⟨127, 127, 5⟩ : S92), (⟨128, 159, 6⟩ : S92), (⟨160, 160, 10⟩ : S92), (⟨5760, 5760, 10⟩ : S92), (⟨8192, 8202, 10⟩ : S92), (⟨8232, 8233, 10⟩ : S92), (⟨8239, 8239, 10⟩ : S92), (⟨8287, 8287, 10⟩ : S92), (⟨12288, 12288, 10⟩ : S92), (⟨173, 173, 8⟩ : S92), (⟨6155, 6158, 8⟩ : S92), (⟨8203, 8205, 8⟩ : S92), (⟨8288, 8292, 8⟩ : S92), (⟨65279, 65279, 8⟩ : S92), (⟨65529, 65531, 8⟩ : S92), (⟨1564, 1564, 7⟩ : S92), (⟨8206, 8207, 7⟩ : S92), (⟨8234, 8238, 7⟩ : S92), (⟨8294, 8297, 7⟩ : S92), (⟨768, 879, 9⟩ : S92), (⟨1155, 1161, 9⟩ : S92), (⟨1425, 1469, 9⟩ : S92), (⟨1552, 1562, 9⟩ : S92), (⟨1611, 1631, 9⟩ : S92), (⟨1750, 1756, 9⟩ : S92), (⟨6832, 6862, 9⟩ : S92), (⟨7616, 7679, 9⟩ : S92), (⟨8400, 8432, 9⟩ : S92), (⟨12330, 12335, 9⟩ : S92), (⟨12441, 12442, 9⟩ : S92), (⟨65024, 65039, 9⟩ : S92), (⟨65056, 65071, 9⟩ : S92), (⟨57344, 63743, 11⟩ : S92), (⟨64976, 65007, 11⟩ : S92), (⟨65520, 65528, 11⟩ : S92), (⟨65534, 65535, 11⟩ : S92), (⟨131070, 131071, 11⟩ : S92), (⟨262142, 1114111, 11⟩ : S92)]
def widesL : List S92 := [(⟨4352, 4447, 2⟩ : S92), (⟨8986, 8987, 2⟩ : S92), (⟨11904, 12287, 2⟩ : S92), (⟨12289, 12350, 2⟩ : S92), (⟨12353, 13311, 2⟩ : S92), (⟨13312, 19903, 2⟩ : S92), (⟨19968, 42191, 2⟩ : S92), (⟨43360, 43391, 2⟩ : S92), (⟨44032, 55203, 2⟩ : S92), (⟨63744, 64255, 2⟩ : S92), (⟨65072, 65135, 2⟩ : S92), (⟨65280, 65376, 2⟩ : S92), (⟨65504, 65510, 2⟩ : S92), (⟨127744, 128591, 2⟩ : S92), (⟨128640, 128767, 2⟩ : S92), (⟨129280, 129535, 2⟩ : S92), (⟨131072, 262141, 2⟩ : S92)]
def looksL : List S60 := [(⟨913, 65⟩ : S60), (⟨914, 66⟩ : S60), (⟨917, 69⟩ : S60), (⟨918, 90⟩ : S60), (⟨919, 72⟩ : S60), (⟨921, 73⟩ : S60), (⟨922, 75⟩ : S60), (⟨924, 77⟩ : S60), (⟨925, 78⟩ : S60), (⟨927, 79⟩ : S60), (⟨929, 80⟩ : S60), (⟨932, 84⟩ : S60), (⟨933, 89⟩ : S60), (⟨935, 88⟩ : S60), (⟨957, 118⟩ : S60), (⟨959, 111⟩ : S60), (⟨961, 112⟩ : S60), (⟨1029, 83⟩ : S60), (⟨1030, 73⟩ : S60), (⟨1032, 74⟩ : S60), (⟨1040, 65⟩ : S60), (⟨1042, 66⟩ : S60), (⟨1045, 69⟩ : S60), (⟨1050, 75⟩ : S60), (⟨1052, 77⟩ : S60), (⟨1053, 72⟩ : S60), (⟨1054, 79⟩ : S60), (⟨1056, 80⟩ : S60), (⟨1057, 67⟩ : S60), (⟨1058, 84⟩ : S60), (⟨1061, 88⟩ : S60), (⟨1072, 97⟩ : S60), (⟨1077, 101⟩ : S60), (⟨1086, 111⟩ : S60), (⟨1088, 112⟩ : S60), (⟨1089, 99⟩ : S60), (⟨1091, 121⟩ : S60), (⟨1093, 120⟩ : S60), (⟨1109, 115⟩ : S60), (⟨1110, 105⟩ : S60), (⟨1112, 106⟩ : S60), (⟨1281, 100⟩ : S60), (⟨1307, 113⟩ : S60), (⟨1309, 119⟩ : S60), (⟨894, 59⟩ : S60), (⟨8208, 45⟩ : S60), (⟨8722, 45⟩ : S60), (⟨8260, 47⟩ : S60), (⟨8725, 47⟩ : S60), (⟨8228, 46⟩ : S60), (⟨8218, 44⟩ : S60)]
theorem span_0 (v : Int) (h1 : 0 ≤ v) (h2 : v ≤ 31) : oddS v = 4 := by
  unfold oddS
  rw [if_pos (by omega)]
theorem span_1 (v : Int) (h1 : 127 ≤ v) (h2 : v ≤ 127) : oddS v = 5 := by
  unfold oddS
  rw [if_neg (by omega), if_pos (by omega)]
theorem span_2 (v : Int) (h1 : 128 ≤ v) (h2 : v ≤ 159) : oddS v = 6 := by
  unfold oddS
  rw [if_neg (by omega), if_neg (by omega), if_pos (by omega)]
theorem span_3 (v : Int) (h1 : 160 ≤ v) (h2 : v ≤ 160) : oddS v = 10 := by
  unfold oddS
  rw [if_neg (by omega), if_neg (by omega), if_neg (by omega), if_pos (show inR v [160, 160, 5760, 5760, 8192, 8202, 8232, 8233, 8239, 8239, 8287, 8287, 12288, 12288] from .inl ⟨h1, h2⟩)]
theorem span_4 (v : Int) (h1 : 5760 ≤ v) (h2 : v ≤ 5760) : oddS v = 10 := by
  unfold oddS
  rw [if_neg (by omega), if_neg (by omega), if_neg (by omega), if_pos (show inR v [160, 160, 5760, 5760, 8192, 8202, 8232, 8233, 8239, 8239, 8287, 8287, 12288, 12288] from .inr (.inl ⟨h1, h2⟩))]
theorem span_5 (v : Int) (h1 : 8192 ≤ v) (h2 : v ≤ 8202) : oddS v = 10 := by
  unfold oddS
  rw [if_neg (by omega), if_neg (by omega), if_neg (by omega), if_pos (show inR v [160, 160, 5760, 5760, 8192, 8202, 8232, 8233, 8239, 8239, 8287, 8287, 12288, 12288] from .inr (.inr (.inl ⟨h1, h2⟩)))]
theorem span_6 (v : Int) (h1 : 8232 ≤ v) (h2 : v ≤ 8233) : oddS v = 10 := by
  unfold oddS
  rw [if_neg (by omega), if_neg (by omega), if_neg (by omega), if_pos (show inR v [160, 160, 5760, 5760, 8192, 8202, 8232, 8233, 8239, 8239, 8287, 8287, 12288, 12288] from .inr (.inr (.inr (.inl ⟨h1, h2⟩))))]
theorem span_7 (v : Int) (h1 : 8239 ≤ v) (h2 : v ≤ 8239) : oddS v = 10 := by
  unfold oddS
  rw [if_neg (by omega), if_neg (by omega), if_neg (by omega), if_pos (show inR v [160, 160, 5760, 5760, 8192, 8202, 8232, 8233, 8239, 8239, 8287, 8287, 12288, 12288] from .inr (.inr (.inr (.inr (.inl ⟨h1, h2⟩)))))]
theorem span_8 (v : Int) (h1 : 8287 ≤ v) (h2 : v ≤ 8287) : oddS v = 10 := by
  unfold oddS
  rw [if_neg (by omega), if_neg (by omega), if_neg (by omega), if_pos (show inR v [160, 160, 5760, 5760, 8192, 8202, 8232, 8233, 8239, 8239, 8287, 8287, 12288, 12288] from .inr (.inr (.inr (.inr (.inr (.inl ⟨h1, h2⟩))))))]
theorem span_9 (v : Int) (h1 : 12288 ≤ v) (h2 : v ≤ 12288) : oddS v = 10 := by
  unfold oddS
  rw [if_neg (by omega), if_neg (by omega), if_neg (by omega), if_pos (show inR v [160, 160, 5760, 5760, 8192, 8202, 8232, 8233, 8239, 8239, 8287, 8287, 12288, 12288] from .inr (.inr (.inr (.inr (.inr (.inr (.inl ⟨h1, h2⟩)))))))]
theorem span_10 (v : Int) (h1 : 173 ≤ v) (h2 : v ≤ 173) : oddS v = 8 := by
  unfold oddS
  rw [if_neg (by omega), if_neg (by omega), if_neg (by omega), if_neg (show ¬ inR v [160, 160, 5760, 5760, 8192, 8202, 8232, 8233, 8239, 8239, 8287, 8287, 12288, 12288] from fun h => by rcases h with h | h | h | h | h | h | h | h <;> first | omega | exact h.elim), if_pos (show inR v [173, 173, 6155, 6158, 8203, 8205, 8288, 8292, 65279, 65279, 65529, 65531] from .inl ⟨h1, h2⟩)]
theorem span_11 (v : Int) (h1 : 6155 ≤ v) (h2 : v ≤ 6158) : oddS v = 8 := by
  unfold oddS
  rw [if_neg (by omega), if_neg (by omega), if_neg (by omega), if_neg (show ¬ inR v [160, 160, 5760, 5760, 8192, 8202, 8232, 8233, 8239, 8239, 8287, 8287, 12288, 12288] from fun h => by rcases h with h | h | h | h | h | h | h | h <;> first | omega | exact h.elim), if_pos (show inR v [173, 173, 6155, 6158, 8203, 8205, 8288, 8292, 65279, 65279, 65529, 65531] from .inr (.inl ⟨h1, h2⟩))]
theorem span_12 (v : Int) (h1 : 8203 ≤ v) (h2 : v ≤ 8205) : oddS v = 8 := by
  unfold oddS
  rw [if_neg (by omega), if_neg (by omega), if_neg (by omega), if_neg (show ¬ inR v [160, 160, 5760, 5760, 8192, 8202, 8232, 8233, 8239, 8239, 8287, 8287, 12288, 12288] from fun h => by rcases h with h | h | h | h | h | h | h | h <;> first | omega | exact h.elim), if_pos (show inR v [173, 173, 6155, 6158, 8203, 8205, 8288, 8292, 65279, 65279, 65529, 65531] from .inr (.inr (.inl ⟨h1, h2⟩)))]
theorem span_13 (v : Int) (h1 : 8288 ≤ v) (h2 : v ≤ 8292) : oddS v = 8 := by
  unfold oddS
  rw [if_neg (by omega), if_neg (by omega), if_neg (by omega), if_neg (show ¬ inR v [160, 160, 5760, 5760, 8192, 8202, 8232, 8233, 8239, 8239, 8287, 8287, 12288, 12288] from fun h => by rcases h with h | h | h | h | h | h | h | h <;> first | omega | exact h.elim), if_pos (show inR v [173, 173, 6155, 6158, 8203, 8205, 8288, 8292, 65279, 65279, 65529, 65531] from .inr (.inr (.inr (.inl ⟨h1, h2⟩))))]
theorem span_14 (v : Int) (h1 : 65279 ≤ v) (h2 : v ≤ 65279) : oddS v = 8 := by
  unfold oddS
  rw [if_neg (by omega), if_neg (by omega), if_neg (by omega), if_neg (show ¬ inR v [160, 160, 5760, 5760, 8192, 8202, 8232, 8233, 8239, 8239, 8287, 8287, 12288, 12288] from fun h => by rcases h with h | h | h | h | h | h | h | h <;> first | omega | exact h.elim), if_pos (show inR v [173, 173, 6155, 6158, 8203, 8205, 8288, 8292, 65279, 65279, 65529, 65531] from .inr (.inr (.inr (.inr (.inl ⟨h1, h2⟩)))))]
theorem span_15 (v : Int) (h1 : 65529 ≤ v) (h2 : v ≤ 65531) : oddS v = 8 := by
  unfold oddS
  rw [if_neg (by omega), if_neg (by omega), if_neg (by omega), if_neg (show ¬ inR v [160, 160, 5760, 5760, 8192, 8202, 8232, 8233, 8239, 8239, 8287, 8287, 12288, 12288] from fun h => by rcases h with h | h | h | h | h | h | h | h <;> first | omega | exact h.elim), if_pos (show inR v [173, 173, 6155, 6158, 8203, 8205, 8288, 8292, 65279, 65279, 65529, 65531] from .inr (.inr (.inr (.inr (.inr (.inl ⟨h1, h2⟩))))))]
theorem span_16 (v : Int) (h1 : 1564 ≤ v) (h2 : v ≤ 1564) : oddS v = 7 := by
  unfold oddS
  rw [if_neg (by omega), if_neg (by omega), if_neg (by omega), if_neg (show ¬ inR v [160, 160, 5760, 5760, 8192, 8202, 8232, 8233, 8239, 8239, 8287, 8287, 12288, 12288] from fun h => by rcases h with h | h | h | h | h | h | h | h <;> first | omega | exact h.elim), if_neg (show ¬ inR v [173, 173, 6155, 6158, 8203, 8205, 8288, 8292, 65279, 65279, 65529, 65531] from fun h => by rcases h with h | h | h | h | h | h | h <;> first | omega | exact h.elim), if_pos (show inR v [1564, 1564, 8206, 8207, 8234, 8238, 8294, 8297] from .inl ⟨h1, h2⟩)]
theorem span_17 (v : Int) (h1 : 8206 ≤ v) (h2 : v ≤ 8207) : oddS v = 7 := by
  unfold oddS
  rw [if_neg (by omega), if_neg (by omega), if_neg (by omega), if_neg (show ¬ inR v [160, 160, 5760, 5760, 8192, 8202, 8232, 8233, 8239, 8239, 8287, 8287, 12288, 12288] from fun h => by rcases h with h | h | h | h | h | h | h | h <;> first | omega | exact h.elim), if_neg (show ¬ inR v [173, 173, 6155, 6158, 8203, 8205, 8288, 8292, 65279, 65279, 65529, 65531] from fun h => by rcases h with h | h | h | h | h | h | h <;> first | omega | exact h.elim), if_pos (show inR v [1564, 1564, 8206, 8207, 8234, 8238, 8294, 8297] from .inr (.inl ⟨h1, h2⟩))]
theorem span_18 (v : Int) (h1 : 8234 ≤ v) (h2 : v ≤ 8238) : oddS v = 7 := by
  unfold oddS
  rw [if_neg (by omega), if_neg (by omega), if_neg (by omega), if_neg (show ¬ inR v [160, 160, 5760, 5760, 8192, 8202, 8232, 8233, 8239, 8239, 8287, 8287, 12288, 12288] from fun h => by rcases h with h | h | h | h | h | h | h | h <;> first | omega | exact h.elim), if_neg (show ¬ inR v [173, 173, 6155, 6158, 8203, 8205, 8288, 8292, 65279, 65279, 65529, 65531] from fun h => by rcases h with h | h | h | h | h | h | h <;> first | omega | exact h.elim), if_pos (show inR v [1564, 1564, 8206, 8207, 8234, 8238, 8294, 8297] from .inr (.inr (.inl ⟨h1, h2⟩)))]
theorem span_19 (v : Int) (h1 : 8294 ≤ v) (h2 : v ≤ 8297) : oddS v = 7 := by
  unfold oddS
  rw [if_neg (by omega), if_neg (by omega), if_neg (by omega), if_neg (show ¬ inR v [160, 160, 5760, 5760, 8192, 8202, 8232, 8233, 8239, 8239, 8287, 8287, 12288, 12288] from fun h => by rcases h with h | h | h | h | h | h | h | h <;> first | omega | exact h.elim), if_neg (show ¬ inR v [173, 173, 6155, 6158, 8203, 8205, 8288, 8292, 65279, 65279, 65529, 65531] from fun h => by rcases h with h | h | h | h | h | h | h <;> first | omega | exact h.elim), if_pos (show inR v [1564, 1564, 8206, 8207, 8234, 8238, 8294, 8297] from .inr (.inr (.inr (.inl ⟨h1, h2⟩))))]
theorem span_20 (v : Int) (h1 : 768 ≤ v) (h2 : v ≤ 879) : oddS v = 9 := by
  unfold oddS
  rw [if_neg (by omega), if_neg (by omega), if_neg (by omega), if_neg (show ¬ inR v [160, 160, 5760, 5760, 8192, 8202, 8232, 8233, 8239, 8239, 8287, 8287, 12288, 12288] from fun h => by rcases h with h | h | h | h | h | h | h | h <;> first | omega | exact h.elim), if_neg (show ¬ inR v [173, 173, 6155, 6158, 8203, 8205, 8288, 8292, 65279, 65279, 65529, 65531] from fun h => by rcases h with h | h | h | h | h | h | h <;> first | omega | exact h.elim), if_neg (show ¬ inR v [1564, 1564, 8206, 8207, 8234, 8238, 8294, 8297] from fun h => by rcases h with h | h | h | h | h <;> first | omega | exact h.elim), if_pos (show inR v [768, 879, 1155, 1161, 1425, 1469, 1552, 1562, 1611, 1631, 1750, 1756, 6832, 6862, 7616, 7679, 8400, 8432, 12330, 12335, 12441, 12442, 65024, 65039, 65056, 65071] from .inl ⟨h1, h2⟩)]
theorem span_21 (v : Int) (h1 : 1155 ≤ v) (h2 : v ≤ 1161) : oddS v = 9 := by
  unfold oddS
  rw [if_neg (by omega), if_neg (by omega), if_neg (by omega), if_neg (show ¬ inR v [160, 160, 5760, 5760, 8192, 8202, 8232, 8233, 8239, 8239, 8287, 8287, 12288, 12288] from fun h => by rcases h with h | h | h | h | h | h | h | h <;> first | omega | exact h.elim), if_neg (show ¬ inR v [173, 173, 6155, 6158, 8203, 8205, 8288, 8292, 65279, 65279, 65529, 65531] from fun h => by rcases h with h | h | h | h | h | h | h <;> first | omega | exact h.elim), if_neg (show ¬ inR v [1564, 1564, 8206, 8207, 8234, 8238, 8294, 8297] from fun h => by rcases h with h | h | h | h | h <;> first | omega | exact h.elim), if_pos (show inR v [768, 879, 1155, 1161, 1425, 1469, 1552, 1562, 1611, 1631, 1750, 1756, 6832, 6862, 7616, 7679, 8400, 8432, 12330, 12335, 12441, 12442, 65024, 65039, 65056, 65071] from .inr (.inl ⟨h1, h2⟩))]
theorem span_22 (v : Int) (h1 : 1425 ≤ v) (h2 : v ≤ 1469) : oddS v = 9 := by
  unfold oddS
  rw [if_neg (by omega), if_neg (by omega), if_neg (by omega), if_neg (show ¬ inR v [160, 160, 5760, 5760, 8192, 8202, 8232, 8233, 8239, 8239, 8287, 8287, 12288, 12288] from fun h => by rcases h with h | h | h | h | h | h | h | h <;> first | omega | exact h.elim), if_neg (show ¬ inR v [173, 173, 6155, 6158, 8203, 8205, 8288, 8292, 65279, 65279, 65529, 65531] from fun h => by rcases h with h | h | h | h | h | h | h <;> first | omega | exact h.elim), if_neg (show ¬ inR v [1564, 1564, 8206, 8207, 8234, 8238, 8294, 8297] from fun h => by rcases h with h | h | h | h | h <;> first | omega | exact h.elim), if_pos (show inR v [768, 879, 1155, 1161, 1425, 1469, 1552, 1562, 1611, 1631, 1750, 1756, 6832, 6862, 7616, 7679, 8400, 8432, 12330, 12335, 12441, 12442, 65024, 65039, 65056, 65071] from .inr (.inr (.inl ⟨h1, h2⟩)))]
theorem span_23 (v : Int) (h1 : 1552 ≤ v) (h2 : v ≤ 1562) : oddS v = 9 := by
  unfold oddS
  rw [if_neg (by omega), if_neg (by omega), if_neg (by omega), if_neg (show ¬ inR v [160, 160, 5760, 5760, 8192, 8202, 8232, 8233, 8239, 8239, 8287, 8287, 12288, 12288] from fun h => by rcases h with h | h | h | h | h | h | h | h <;> first | omega | exact h.elim), if_neg (show ¬ inR v [173, 173, 6155, 6158, 8203, 8205, 8288, 8292, 65279, 65279, 65529, 65531] from fun h => by rcases h with h | h | h | h | h | h | h <;> first | omega | exact h.elim), if_neg (show ¬ inR v [1564, 1564, 8206, 8207, 8234, 8238, 8294, 8297] from fun h => by rcases h with h | h | h | h | h <;> first | omega | exact h.elim), if_pos (show inR v [768, 879, 1155, 1161, 1425, 1469, 1552, 1562, 1611, 1631, 1750, 1756, 6832, 6862, 7616, 7679, 8400, 8432, 12330, 12335, 12441, 12442, 65024, 65039, 65056, 65071] from .inr (.inr (.inr (.inl ⟨h1, h2⟩))))]
theorem span_24 (v : Int) (h1 : 1611 ≤ v) (h2 : v ≤ 1631) : oddS v = 9 := by
  unfold oddS
  rw [if_neg (by omega), if_neg (by omega), if_neg (by omega), if_neg (show ¬ inR v [160, 160, 5760, 5760, 8192, 8202, 8232, 8233, 8239, 8239, 8287, 8287, 12288, 12288] from fun h => by rcases h with h | h | h | h | h | h | h | h <;> first | omega | exact h.elim), if_neg (show ¬ inR v [173, 173, 6155, 6158, 8203, 8205, 8288, 8292, 65279, 65279, 65529, 65531] from fun h => by rcases h with h | h | h | h | h | h | h <;> first | omega | exact h.elim), if_neg (show ¬ inR v [1564, 1564, 8206, 8207, 8234, 8238, 8294, 8297] from fun h => by rcases h with h | h | h | h | h <;> first | omega | exact h.elim), if_pos (show inR v [768, 879, 1155, 1161, 1425, 1469, 1552, 1562, 1611, 1631, 1750, 1756, 6832, 6862, 7616, 7679, 8400, 8432, 12330, 12335, 12441, 12442, 65024, 65039, 65056, 65071] from .inr (.inr (.inr (.inr (.inl ⟨h1, h2⟩)))))]
theorem span_25 (v : Int) (h1 : 1750 ≤ v) (h2 : v ≤ 1756) : oddS v = 9 := by
  unfold oddS
  rw [if_neg (by omega), if_neg (by omega), if_neg (by omega), if_neg (show ¬ inR v [160, 160, 5760, 5760, 8192, 8202, 8232, 8233, 8239, 8239, 8287, 8287, 12288, 12288] from fun h => by rcases h with h | h | h | h | h | h | h | h <;> first | omega | exact h.elim), if_neg (show ¬ inR v [173, 173, 6155, 6158, 8203, 8205, 8288, 8292, 65279, 65279, 65529, 65531] from fun h => by rcases h with h | h | h | h | h | h | h <;> first | omega | exact h.elim), if_neg (show ¬ inR v [1564, 1564, 8206, 8207, 8234, 8238, 8294, 8297] from fun h => by rcases h with h | h | h | h | h <;> first | omega | exact h.elim), if_pos (show inR v [768, 879, 1155, 1161, 1425, 1469, 1552, 1562, 1611, 1631, 1750, 1756, 6832, 6862, 7616, 7679, 8400, 8432, 12330, 12335, 12441, 12442, 65024, 65039, 65056, 65071] from .inr (.inr (.inr (.inr (.inr (.inl ⟨h1, h2⟩))))))]
theorem span_26 (v : Int) (h1 : 6832 ≤ v) (h2 : v ≤ 6862) : oddS v = 9 := by
  unfold oddS
  rw [if_neg (by omega), if_neg (by omega), if_neg (by omega), if_neg (show ¬ inR v [160, 160, 5760, 5760, 8192, 8202, 8232, 8233, 8239, 8239, 8287, 8287, 12288, 12288] from fun h => by rcases h with h | h | h | h | h | h | h | h <;> first | omega | exact h.elim), if_neg (show ¬ inR v [173, 173, 6155, 6158, 8203, 8205, 8288, 8292, 65279, 65279, 65529, 65531] from fun h => by rcases h with h | h | h | h | h | h | h <;> first | omega | exact h.elim), if_neg (show ¬ inR v [1564, 1564, 8206, 8207, 8234, 8238, 8294, 8297] from fun h => by rcases h with h | h | h | h | h <;> first | omega | exact h.elim), if_pos (show inR v [768, 879, 1155, 1161, 1425, 1469, 1552, 1562, 1611, 1631, 1750, 1756, 6832, 6862, 7616, 7679, 8400, 8432, 12330, 12335, 12441, 12442, 65024, 65039, 65056, 65071] from .inr (.inr (.inr (.inr (.inr (.inr (.inl ⟨h1, h2⟩)))))))]
theorem span_27 (v : Int) (h1 : 7616 ≤ v) (h2 : v ≤ 7679) : oddS v = 9 := by
  unfold oddS
  rw [if_neg (by omega), if_neg (by omega), if_neg (by omega), if_neg (show ¬ inR v [160, 160, 5760, 5760, 8192, 8202, 8232, 8233, 8239, 8239, 8287, 8287, 12288, 12288] from fun h => by rcases h with h | h | h | h | h | h | h | h <;> first | omega | exact h.elim), if_neg (show ¬ inR v [173, 173, 6155, 6158, 8203, 8205, 8288, 8292, 65279, 65279, 65529, 65531] from fun h => by rcases h with h | h | h | h | h | h | h <;> first | omega | exact h.elim), if_neg (show ¬ inR v [1564, 1564, 8206, 8207, 8234, 8238, 8294, 8297] from fun h => by rcases h with h | h | h | h | h <;> first | omega | exact h.elim), if_pos (show inR v [768, 879, 1155, 1161, 1425, 1469, 1552, 1562, 1611, 1631, 1750, 1756, 6832, 6862, 7616, 7679, 8400, 8432, 12330, 12335, 12441, 12442, 65024, 65039, 65056, 65071] from .inr (.inr (.inr (.inr (.inr (.inr (.inr (.inl ⟨h1, h2⟩))))))))]
theorem span_28 (v : Int) (h1 : 8400 ≤ v) (h2 : v ≤ 8432) : oddS v = 9 := by
  unfold oddS
  rw [if_neg (by omega), if_neg (by omega), if_neg (by omega), if_neg (show ¬ inR v [160, 160, 5760, 5760, 8192, 8202, 8232, 8233, 8239, 8239, 8287, 8287, 12288, 12288] from fun h => by rcases h with h | h | h | h | h | h | h | h <;> first | omega | exact h.elim), if_neg (show ¬ inR v [173, 173, 6155, 6158, 8203, 8205, 8288, 8292, 65279, 65279, 65529, 65531] from fun h => by rcases h with h | h | h | h | h | h | h <;> first | omega | exact h.elim), if_neg (show ¬ inR v [1564, 1564, 8206, 8207, 8234, 8238, 8294, 8297] from fun h => by rcases h with h | h | h | h | h <;> first | omega | exact h.elim), if_pos (show inR v [768, 879, 1155, 1161, 1425, 1469, 1552, 1562, 1611, 1631, 1750, 1756, 6832, 6862, 7616, 7679, 8400, 8432, 12330, 12335, 12441, 12442, 65024, 65039, 65056, 65071] from .inr (.inr (.inr (.inr (.inr (.inr (.inr (.inr (.inl ⟨h1, h2⟩)))))))))]
theorem span_29 (v : Int) (h1 : 12330 ≤ v) (h2 : v ≤ 12335) : oddS v = 9 := by
  unfold oddS
  rw [if_neg (by omega), if_neg (by omega), if_neg (by omega), if_neg (show ¬ inR v [160, 160, 5760, 5760, 8192, 8202, 8232, 8233, 8239, 8239, 8287, 8287, 12288, 12288] from fun h => by rcases h with h | h | h | h | h | h | h | h <;> first | omega | exact h.elim), if_neg (show ¬ inR v [173, 173, 6155, 6158, 8203, 8205, 8288, 8292, 65279, 65279, 65529, 65531] from fun h => by rcases h with h | h | h | h | h | h | h <;> first | omega | exact h.elim), if_neg (show ¬ inR v [1564, 1564, 8206, 8207, 8234, 8238, 8294, 8297] from fun h => by rcases h with h | h | h | h | h <;> first | omega | exact h.elim), if_pos (show inR v [768, 879, 1155, 1161, 1425, 1469, 1552, 1562, 1611, 1631, 1750, 1756, 6832, 6862, 7616, 7679, 8400, 8432, 12330, 12335, 12441, 12442, 65024, 65039, 65056, 65071] from .inr (.inr (.inr (.inr (.inr (.inr (.inr (.inr (.inr (.inl ⟨h1, h2⟩))))))))))]
theorem span_30 (v : Int) (h1 : 12441 ≤ v) (h2 : v ≤ 12442) : oddS v = 9 := by
  unfold oddS
  rw [if_neg (by omega), if_neg (by omega), if_neg (by omega), if_neg (show ¬ inR v [160, 160, 5760, 5760, 8192, 8202, 8232, 8233, 8239, 8239, 8287, 8287, 12288, 12288] from fun h => by rcases h with h | h | h | h | h | h | h | h <;> first | omega | exact h.elim), if_neg (show ¬ inR v [173, 173, 6155, 6158, 8203, 8205, 8288, 8292, 65279, 65279, 65529, 65531] from fun h => by rcases h with h | h | h | h | h | h | h <;> first | omega | exact h.elim), if_neg (show ¬ inR v [1564, 1564, 8206, 8207, 8234, 8238, 8294, 8297] from fun h => by rcases h with h | h | h | h | h <;> first | omega | exact h.elim), if_pos (show inR v [768, 879, 1155, 1161, 1425, 1469, 1552, 1562, 1611, 1631, 1750, 1756, 6832, 6862, 7616, 7679, 8400, 8432, 12330, 12335, 12441, 12442, 65024, 65039, 65056, 65071] from .inr (.inr (.inr (.inr (.inr (.inr (.inr (.inr (.inr (.inr (.inl ⟨h1, h2⟩)))))))))))]
theorem span_31 (v : Int) (h1 : 65024 ≤ v) (h2 : v ≤ 65039) : oddS v = 9 := by
  unfold oddS
  rw [if_neg (by omega), if_neg (by omega), if_neg (by omega), if_neg (show ¬ inR v [160, 160, 5760, 5760, 8192, 8202, 8232, 8233, 8239, 8239, 8287, 8287, 12288, 12288] from fun h => by rcases h with h | h | h | h | h | h | h | h <;> first | omega | exact h.elim), if_neg (show ¬ inR v [173, 173, 6155, 6158, 8203, 8205, 8288, 8292, 65279, 65279, 65529, 65531] from fun h => by rcases h with h | h | h | h | h | h | h <;> first | omega | exact h.elim), if_neg (show ¬ inR v [1564, 1564, 8206, 8207, 8234, 8238, 8294, 8297] from fun h => by rcases h with h | h | h | h | h <;> first | omega | exact h.elim), if_pos (show inR v [768, 879, 1155, 1161, 1425, 1469, 1552, 1562, 1611, 1631, 1750, 1756, 6832, 6862, 7616, 7679, 8400, 8432, 12330, 12335, 12441, 12442, 65024, 65039, 65056, 65071] from .inr (.inr (.inr (.inr (.inr (.inr (.inr (.inr (.inr (.inr (.inr (.inl ⟨h1, h2⟩))))))))))))]
theorem span_32 (v : Int) (h1 : 65056 ≤ v) (h2 : v ≤ 65071) : oddS v = 9 := by
  unfold oddS
  rw [if_neg (by omega), if_neg (by omega), if_neg (by omega), if_neg (show ¬ inR v [160, 160, 5760, 5760, 8192, 8202, 8232, 8233, 8239, 8239, 8287, 8287, 12288, 12288] from fun h => by rcases h with h | h | h | h | h | h | h | h <;> first | omega | exact h.elim), if_neg (show ¬ inR v [173, 173, 6155, 6158, 8203, 8205, 8288, 8292, 65279, 65279, 65529, 65531] from fun h => by rcases h with h | h | h | h | h | h | h <;> first | omega | exact h.elim), if_neg (show ¬ inR v [1564, 1564, 8206, 8207, 8234, 8238, 8294, 8297] from fun h => by rcases h with h | h | h | h | h <;> first | omega | exact h.elim), if_pos (show inR v [768, 879, 1155, 1161, 1425, 1469, 1552, 1562, 1611, 1631, 1750, 1756, 6832, 6862, 7616, 7679, 8400, 8432, 12330, 12335, 12441, 12442, 65024, 65039, 65056, 65071] from .inr (.inr (.inr (.inr (.inr (.inr (.inr (.inr (.inr (.inr (.inr (.inr (.inl ⟨h1, h2⟩)))))))))))))]
theorem span_33 (v : Int) (h1 : 57344 ≤ v) (h2 : v ≤ 63743) : oddS v = 11 := by
  unfold oddS
  rw [if_neg (by omega), if_neg (by omega), if_neg (by omega), if_neg (show ¬ inR v [160, 160, 5760, 5760, 8192, 8202, 8232, 8233, 8239, 8239, 8287, 8287, 12288, 12288] from fun h => by rcases h with h | h | h | h | h | h | h | h <;> first | omega | exact h.elim), if_neg (show ¬ inR v [173, 173, 6155, 6158, 8203, 8205, 8288, 8292, 65279, 65279, 65529, 65531] from fun h => by rcases h with h | h | h | h | h | h | h <;> first | omega | exact h.elim), if_neg (show ¬ inR v [1564, 1564, 8206, 8207, 8234, 8238, 8294, 8297] from fun h => by rcases h with h | h | h | h | h <;> first | omega | exact h.elim), if_neg (show ¬ inR v [768, 879, 1155, 1161, 1425, 1469, 1552, 1562, 1611, 1631, 1750, 1756, 6832, 6862, 7616, 7679, 8400, 8432, 12330, 12335, 12441, 12442, 65024, 65039, 65056, 65071] from fun h => by rcases h with h | h | h | h | h | h | h | h | h | h | h | h | h | h <;> first | omega | exact h.elim), if_pos (show inR v [57344, 63743, 64976, 65007, 65520, 65528, 65534, 65535, 131070, 131071, 262142, 1114111] from .inl ⟨h1, h2⟩)]
theorem span_34 (v : Int) (h1 : 64976 ≤ v) (h2 : v ≤ 65007) : oddS v = 11 := by
  unfold oddS
  rw [if_neg (by omega), if_neg (by omega), if_neg (by omega), if_neg (show ¬ inR v [160, 160, 5760, 5760, 8192, 8202, 8232, 8233, 8239, 8239, 8287, 8287, 12288, 12288] from fun h => by rcases h with h | h | h | h | h | h | h | h <;> first | omega | exact h.elim), if_neg (show ¬ inR v [173, 173, 6155, 6158, 8203, 8205, 8288, 8292, 65279, 65279, 65529, 65531] from fun h => by rcases h with h | h | h | h | h | h | h <;> first | omega | exact h.elim), if_neg (show ¬ inR v [1564, 1564, 8206, 8207, 8234, 8238, 8294, 8297] from fun h => by rcases h with h | h | h | h | h <;> first | omega | exact h.elim), if_neg (show ¬ inR v [768, 879, 1155, 1161, 1425, 1469, 1552, 1562, 1611, 1631, 1750, 1756, 6832, 6862, 7616, 7679, 8400, 8432, 12330, 12335, 12441, 12442, 65024, 65039, 65056, 65071] from fun h => by rcases h with h | h | h | h | h | h | h | h | h | h | h | h | h | h <;> first | omega | exact h.elim), if_pos (show inR v [57344, 63743, 64976, 65007, 65520, 65528, 65534, 65535, 131070, 131071, 262142, 1114111] from .inr (.inl ⟨h1, h2⟩))]
theorem span_35 (v : Int) (h1 : 65520 ≤ v) (h2 : v ≤ 65528) : oddS v = 11 := by
  unfold oddS
  rw [if_neg (by omega), if_neg (by omega), if_neg (by omega), if_neg (show ¬ inR v [160, 160, 5760, 5760, 8192, 8202, 8232, 8233, 8239, 8239, 8287, 8287, 12288, 12288] from fun h => by rcases h with h | h | h | h | h | h | h | h <;> first | omega | exact h.elim), if_neg (show ¬ inR v [173, 173, 6155, 6158, 8203, 8205, 8288, 8292, 65279, 65279, 65529, 65531] from fun h => by rcases h with h | h | h | h | h | h | h <;> first | omega | exact h.elim), if_neg (show ¬ inR v [1564, 1564, 8206, 8207, 8234, 8238, 8294, 8297] from fun h => by rcases h with h | h | h | h | h <;> first | omega | exact h.elim), if_neg (show ¬ inR v [768, 879, 1155, 1161, 1425, 1469, 1552, 1562, 1611, 1631, 1750, 1756, 6832, 6862, 7616, 7679, 8400, 8432, 12330, 12335, 12441, 12442, 65024, 65039, 65056, 65071] from fun h => by rcases h with h | h | h | h | h | h | h | h | h | h | h | h | h | h <;> first | omega | exact h.elim), if_pos (show inR v [57344, 63743, 64976, 65007, 65520, 65528, 65534, 65535, 131070, 131071, 262142, 1114111] from .inr (.inr (.inl ⟨h1, h2⟩)))]
theorem span_36 (v : Int) (h1 : 65534 ≤ v) (h2 : v ≤ 65535) : oddS v = 11 := by
  unfold oddS
  rw [if_neg (by omega), if_neg (by omega), if_neg (by omega), if_neg (show ¬ inR v [160, 160, 5760, 5760, 8192, 8202, 8232, 8233, 8239, 8239, 8287, 8287, 12288, 12288] from fun h => by rcases h with h | h | h | h | h | h | h | h <;> first | omega | exact h.elim), if_neg (show ¬ inR v [173, 173, 6155, 6158, 8203, 8205, 8288, 8292, 65279, 65279, 65529, 65531] from fun h => by rcases h with h | h | h | h | h | h | h <;> first | omega | exact h.elim), if_neg (show ¬ inR v [1564, 1564, 8206, 8207, 8234, 8238, 8294, 8297] from fun h => by rcases h with h | h | h | h | h <;> first | omega | exact h.elim), if_neg (show ¬ inR v [768, 879, 1155, 1161, 1425, 1469, 1552, 1562, 1611, 1631, 1750, 1756, 6832, 6862, 7616, 7679, 8400, 8432, 12330, 12335, 12441, 12442, 65024, 65039, 65056, 65071] from fun h => by rcases h with h | h | h | h | h | h | h | h | h | h | h | h | h | h <;> first | omega | exact h.elim), if_pos (show inR v [57344, 63743, 64976, 65007, 65520, 65528, 65534, 65535, 131070, 131071, 262142, 1114111] from .inr (.inr (.inr (.inl ⟨h1, h2⟩))))]
theorem span_37 (v : Int) (h1 : 131070 ≤ v) (h2 : v ≤ 131071) : oddS v = 11 := by
  unfold oddS
  rw [if_neg (by omega), if_neg (by omega), if_neg (by omega), if_neg (show ¬ inR v [160, 160, 5760, 5760, 8192, 8202, 8232, 8233, 8239, 8239, 8287, 8287, 12288, 12288] from fun h => by rcases h with h | h | h | h | h | h | h | h <;> first | omega | exact h.elim), if_neg (show ¬ inR v [173, 173, 6155, 6158, 8203, 8205, 8288, 8292, 65279, 65279, 65529, 65531] from fun h => by rcases h with h | h | h | h | h | h | h <;> first | omega | exact h.elim), if_neg (show ¬ inR v [1564, 1564, 8206, 8207, 8234, 8238, 8294, 8297] from fun h => by rcases h with h | h | h | h | h <;> first | omega | exact h.elim), if_neg (show ¬ inR v [768, 879, 1155, 1161, 1425, 1469, 1552, 1562, 1611, 1631, 1750, 1756, 6832, 6862, 7616, 7679, 8400, 8432, 12330, 12335, 12441, 12442, 65024, 65039, 65056, 65071] from fun h => by rcases h with h | h | h | h | h | h | h | h | h | h | h | h | h | h <;> first | omega | exact h.elim), if_pos (show inR v [57344, 63743, 64976, 65007, 65520, 65528, 65534, 65535, 131070, 131071, 262142, 1114111] from .inr (.inr (.inr (.inr (.inl ⟨h1, h2⟩)))))]
theorem span_38 (v : Int) (h1 : 262142 ≤ v) (h2 : v ≤ 1114111) : oddS v = 11 := by
  unfold oddS
  rw [if_neg (by omega), if_neg (by omega), if_neg (by omega), if_neg (show ¬ inR v [160, 160, 5760, 5760, 8192, 8202, 8232, 8233, 8239, 8239, 8287, 8287, 12288, 12288] from fun h => by rcases h with h | h | h | h | h | h | h | h <;> first | omega | exact h.elim), if_neg (show ¬ inR v [173, 173, 6155, 6158, 8203, 8205, 8288, 8292, 65279, 65279, 65529, 65531] from fun h => by rcases h with h | h | h | h | h | h | h <;> first | omega | exact h.elim), if_neg (show ¬ inR v [1564, 1564, 8206, 8207, 8234, 8238, 8294, 8297] from fun h => by rcases h with h | h | h | h | h <;> first | omega | exact h.elim), if_neg (show ¬ inR v [768, 879, 1155, 1161, 1425, 1469, 1552, 1562, 1611, 1631, 1750, 1756, 6832, 6862, 7616, 7679, 8400, 8432, 12330, 12335, 12441, 12442, 65024, 65039, 65056, 65071] from fun h => by rcases h with h | h | h | h | h | h | h | h | h | h | h | h | h | h <;> first | omega | exact h.elim), if_pos (show inR v [57344, 63743, 64976, 65007, 65520, 65528, 65534, 65535, 131070, 131071, 262142, 1114111] from .inr (.inr (.inr (.inr (.inr (.inl ⟨h1, h2⟩))))))]
theorem cls_odd (v : Int) (h0 : 0 ≤ v) : (cls v spansL).getD 0 = oddS v := by
  unfold spansL
  by_cases g0 : 0 ≤ v ∧ v ≤ 31
  · rw [cls, if_pos g0]; exact (span_0 v g0.1 g0.2).symm
  rw [cls, if_neg g0]
  by_cases g1 : 127 ≤ v ∧ v ≤ 127
  · rw [cls, if_pos g1]; exact (span_1 v g1.1 g1.2).symm
  rw [cls, if_neg g1]
  by_cases g2 : 128 ≤ v ∧ v ≤ 159
  · rw [cls, if_pos g2]; exact (span_2 v g2.1 g2.2).symm
  rw [cls, if_neg g2]
  by_cases g3 : 160 ≤ v ∧ v ≤ 160
  · rw [cls, if_pos g3]; exact (span_3 v g3.1 g3.2).symm
  rw [cls, if_neg g3]
  by_cases g4 : 5760 ≤ v ∧ v ≤ 5760
  · rw [cls, if_pos g4]; exact (span_4 v g4.1 g4.2).symm
  rw [cls, if_neg g4]
  by_cases g5 : 8192 ≤ v ∧ v ≤ 8202
  · rw [cls, if_pos g5]; exact (span_5 v g5.1 g5.2).symm
  rw [cls, if_neg g5]
  by_cases g6 : 8232 ≤ v ∧ v ≤ 8233
  · rw [cls, if_pos g6]; exact (span_6 v g6.1 g6.2).symm
  rw [cls, if_neg g6]
  by_cases g7 : 8239 ≤ v ∧ v ≤ 8239
  · rw [cls, if_pos g7]; exact (span_7 v g7.1 g7.2).symm
  rw [cls, if_neg g7]
  by_cases g8 : 8287 ≤ v ∧ v ≤ 8287
  · rw [cls, if_pos g8]; exact (span_8 v g8.1 g8.2).symm
  rw [cls, if_neg g8]
  by_cases g9 : 12288 ≤ v ∧ v ≤ 12288
  · rw [cls, if_pos g9]; exact (span_9 v g9.1 g9.2).symm
  rw [cls, if_neg g9]
  by_cases g10 : 173 ≤ v ∧ v ≤ 173
  · rw [cls, if_pos g10]; exact (span_10 v g10.1 g10.2).symm
  rw [cls, if_neg g10]
  by_cases g11 : 6155 ≤ v ∧ v ≤ 6158
  · rw [cls, if_pos g11]; exact (span_11 v g11.1 g11.2).symm
  rw [cls, if_neg g11]
  by_cases g12 : 8203 ≤ v ∧ v ≤ 8205
  · rw [cls, if_pos g12]; exact (span_12 v g12.1 g12.2).symm
  rw [cls, if_neg g12]
  by_cases g13 : 8288 ≤ v ∧ v ≤ 8292
  · rw [cls, if_pos g13]; exact (span_13 v g13.1 g13.2).symm
  rw [cls, if_neg g13]
  by_cases g14 : 65279 ≤ v ∧ v ≤ 65279
  · rw [cls, if_pos g14]; exact (span_14 v g14.1 g14.2).symm
  rw [cls, if_neg g14]
  by_cases g15 : 65529 ≤ v ∧ v ≤ 65531
  · rw [cls, if_pos g15]; exact (span_15 v g15.1 g15.2).symm
  rw [cls, if_neg g15]
  by_cases g16 : 1564 ≤ v ∧ v ≤ 1564
  · rw [cls, if_pos g16]; exact (span_16 v g16.1 g16.2).symm
  rw [cls, if_neg g16]
  by_cases g17 : 8206 ≤ v ∧ v ≤ 8207
  · rw [cls, if_pos g17]; exact (span_17 v g17.1 g17.2).symm
  rw [cls, if_neg g17]
  by_cases g18 : 8234 ≤ v ∧ v ≤ 8238
  · rw [cls, if_pos g18]; exact (span_18 v g18.1 g18.2).symm
  rw [cls, if_neg g18]
  by_cases g19 : 8294 ≤ v ∧ v ≤ 8297
  · rw [cls, if_pos g19]; exact (span_19 v g19.1 g19.2).symm
  rw [cls, if_neg g19]
  by_cases g20 : 768 ≤ v ∧ v ≤ 879
  · rw [cls, if_pos g20]; exact (span_20 v g20.1 g20.2).symm
  rw [cls, if_neg g20]
  by_cases g21 : 1155 ≤ v ∧ v ≤ 1161
  · rw [cls, if_pos g21]; exact (span_21 v g21.1 g21.2).symm
  rw [cls, if_neg g21]
  by_cases g22 : 1425 ≤ v ∧ v ≤ 1469
  · rw [cls, if_pos g22]; exact (span_22 v g22.1 g22.2).symm
  rw [cls, if_neg g22]
  by_cases g23 : 1552 ≤ v ∧ v ≤ 1562
  · rw [cls, if_pos g23]; exact (span_23 v g23.1 g23.2).symm
  rw [cls, if_neg g23]
  by_cases g24 : 1611 ≤ v ∧ v ≤ 1631
  · rw [cls, if_pos g24]; exact (span_24 v g24.1 g24.2).symm
  rw [cls, if_neg g24]
  by_cases g25 : 1750 ≤ v ∧ v ≤ 1756
  · rw [cls, if_pos g25]; exact (span_25 v g25.1 g25.2).symm
  rw [cls, if_neg g25]
  by_cases g26 : 6832 ≤ v ∧ v ≤ 6862
  · rw [cls, if_pos g26]; exact (span_26 v g26.1 g26.2).symm
  rw [cls, if_neg g26]
  by_cases g27 : 7616 ≤ v ∧ v ≤ 7679
  · rw [cls, if_pos g27]; exact (span_27 v g27.1 g27.2).symm
  rw [cls, if_neg g27]
  by_cases g28 : 8400 ≤ v ∧ v ≤ 8432
  · rw [cls, if_pos g28]; exact (span_28 v g28.1 g28.2).symm
  rw [cls, if_neg g28]
  by_cases g29 : 12330 ≤ v ∧ v ≤ 12335
  · rw [cls, if_pos g29]; exact (span_29 v g29.1 g29.2).symm
  rw [cls, if_neg g29]
  by_cases g30 : 12441 ≤ v ∧ v ≤ 12442
  · rw [cls, if_pos g30]; exact (span_30 v g30.1 g30.2).symm
  rw [cls, if_neg g30]
  by_cases g31 : 65024 ≤ v ∧ v ≤ 65039
  · rw [cls, if_pos g31]; exact (span_31 v g31.1 g31.2).symm
  rw [cls, if_neg g31]
  by_cases g32 : 65056 ≤ v ∧ v ≤ 65071
  · rw [cls, if_pos g32]; exact (span_32 v g32.1 g32.2).symm
  rw [cls, if_neg g32]
  by_cases g33 : 57344 ≤ v ∧ v ≤ 63743
  · rw [cls, if_pos g33]; exact (span_33 v g33.1 g33.2).symm
  rw [cls, if_neg g33]
  by_cases g34 : 64976 ≤ v ∧ v ≤ 65007
  · rw [cls, if_pos g34]; exact (span_34 v g34.1 g34.2).symm
  rw [cls, if_neg g34]
  by_cases g35 : 65520 ≤ v ∧ v ≤ 65528
  · rw [cls, if_pos g35]; exact (span_35 v g35.1 g35.2).symm
  rw [cls, if_neg g35]
  by_cases g36 : 65534 ≤ v ∧ v ≤ 65535
  · rw [cls, if_pos g36]; exact (span_36 v g36.1 g36.2).symm
  rw [cls, if_neg g36]
  by_cases g37 : 131070 ≤ v ∧ v ≤ 131071
  · rw [cls, if_pos g37]; exact (span_37 v g37.1 g37.2).symm
  rw [cls, if_neg g37]
  by_cases g38 : 262142 ≤ v ∧ v ≤ 1114111
  · rw [cls, if_pos g38]; exact (span_38 v g38.1 g38.2).symm
  rw [cls, if_neg g38]
  unfold oddS
  rw [if_neg (fun h => g0 ⟨h0, h⟩), if_neg (fun h => g1 ⟨by omega, by omega⟩), if_neg (fun h => g2 h), if_neg (show ¬ inR v [160, 160, 5760, 5760, 8192, 8202, 8232, 8233, 8239, 8239, 8287, 8287, 12288, 12288] from fun h => h.elim (fun h => g3 h) (fun h => h.elim (fun h => g4 h) (fun h => h.elim (fun h => g5 h) (fun h => h.elim (fun h => g6 h) (fun h => h.elim (fun h => g7 h) (fun h => h.elim (fun h => g8 h) (fun h => h.elim (fun h => g9 h) (fun h => h)))))))), if_neg (show ¬ inR v [173, 173, 6155, 6158, 8203, 8205, 8288, 8292, 65279, 65279, 65529, 65531] from fun h => h.elim (fun h => g10 h) (fun h => h.elim (fun h => g11 h) (fun h => h.elim (fun h => g12 h) (fun h => h.elim (fun h => g13 h) (fun h => h.elim (fun h => g14 h) (fun h => h.elim (fun h => g15 h) (fun h => h))))))), if_neg (show ¬ inR v [1564, 1564, 8206, 8207, 8234, 8238, 8294, 8297] from fun h => h.elim (fun h => g16 h) (fun h => h.elim (fun h => g17 h) (fun h => h.elim (fun h => g18 h) (fun h => h.elim (fun h => g19 h) (fun h => h))))), if_neg (show ¬ inR v [768, 879, 1155, 1161, 1425, 1469, 1552, 1562, 1611, 1631, 1750, 1756, 6832, 6862, 7616, 7679, 8400, 8432, 12330, 12335, 12441, 12442, 65024, 65039, 65056, 65071] from fun h => h.elim (fun h => g20 h) (fun h => h.elim (fun h => g21 h) (fun h => h.elim (fun h => g22 h) (fun h => h.elim (fun h => g23 h) (fun h => h.elim (fun h => g24 h) (fun h => h.elim (fun h => g25 h) (fun h => h.elim (fun h => g26 h) (fun h => h.elim (fun h => g27 h) (fun h => h.elim (fun h => g28 h) (fun h => h.elim (fun h => g29 h) (fun h => h.elim (fun h => g30 h) (fun h => h.elim (fun h => g31 h) (fun h => h.elim (fun h => g32 h) (fun h => h)))))))))))))), if_neg (show ¬ inR v [57344, 63743, 64976, 65007, 65520, 65528, 65534, 65535, 131070, 131071, 262142, 1114111] from fun h => h.elim (fun h => g33 h) (fun h => h.elim (fun h => g34 h) (fun h => h.elim (fun h => g35 h) (fun h => h.elim (fun h => g36 h) (fun h => h.elim (fun h => g37 h) (fun h => h.elim (fun h => g38 h) (fun h => h)))))))]
  rfl
theorem skel_l0 (v : Int) (L : List S60) (l : List Int) (s : ByteArray) (hl : l = L.map (·.f0)) (hs : s.size = L.length) (hn : L.length < 1000) (hb : ∀ j : Nat, j < L.length → bt s (j : Int) = (L.getD j z60).f1) : ∀ (n k i : Nat), L.length - i ≤ n → n < k → i ≤ L.length → dactylref03_Skeleton.l0 k v l s (i : Int) = some ((lik v (L.drop i)).getD v) := by
  intro n
  induction n with
  | zero =>
    intro k i hi hk hle
    obtain ⟨k, rfl⟩ : ∃ m, k = m + 1 := ⟨k - 1, by omega⟩
    have : i = L.length := by omega
    simp only [dactylref03_Skeleton.l0]
    rw [if_neg (by rw [hl, List.length_map]; omega), List.drop_eq_nil_of_le (by omega)]
    rfl
  | succ n ih =>
    intro k i hi hk hle
    obtain ⟨k, rfl⟩ : ∃ m, k = m + 1 := ⟨k - 1, by omega⟩
    have w1 : wrap64 ((i : Int) + 1) = ((i + 1 : Nat) : Int) := by unfold wrap64; omega
    simp only [dactylref03_Skeleton.l0, w1]
    by_cases c : i < L.length
    · have r1 : rd l (i : Int) = L[i].f0 := by
        unfold rd
        rw [Int.toNat_natCast, hl, List.getD_eq_getElem?_getD, List.getElem?_map, List.getElem?_eq_getElem c]
        rfl
      have rb : wrap64 (bt s (i : Int)) = L[i].f1 := by
        have h1 := hb i c
        rw [List.getD_eq_getElem?_getD, List.getElem?_eq_getElem c] at h1
        have h2 := bt_range s (i : Int)
        rw [show wrap64 (bt s (i : Int)) = bt s (i : Int) from by unfold wrap64; omega, h1]
        rfl
      rw [if_pos (by rw [hl, List.length_map]; omega), if_pos (by omega), r1, List.drop_eq_getElem_cons c]
      by_cases d : L[i].f0 = v
      · rw [if_pos d, if_pos (by omega), rb, lik, if_pos d]
        rfl
      · rw [if_neg d, lik, if_neg d]
        exact ih k (i + 1) (by omega) (by omega) (by omega)
    · rw [if_neg (by rw [hl, List.length_map]; omega), List.drop_eq_nil_of_le (by omega)]
      rfl
def skelS (v : Int) : Int := (lik v looksL).getD v
theorem ref_skel (k : Nat) (v : Int) (hk : 60 ≤ k) : dactylref03_Skeleton.f k v = some (skelS v) := by
  have := skel_l0 v looksL (looksL.map (·.f0)) (⟨#[65, 66, 69, 90, 72, 73, 75, 77, 78, 79, 80, 84, 89, 88, 118, 111, 112, 83, 73, 74, 65, 66, 69, 75, 77, 72, 79, 80, 67, 84, 88, 97, 101, 111, 112, 99, 121, 120, 115, 105, 106, 100, 113, 119, 59, 45, 45, 47, 47, 46, 44]⟩ : ByteArray) rfl (by decide) (by decide) (by decide +kernel) 51 k 0 (by decide) (by omega) (by decide)
  exact this
theorem prog_skel (v : Int) : class_Skeleton.f v = some (skelS v) := by
  have hf : class_looks.f = some looksL := rfl
  unfold class_Skeleton.f skelS
  rw [hf]
  simp only [Option.bind_some]
  rw [if_pos (by decide)]
  rcases skel_eq v looksL with ⟨h1, h2⟩ | ⟨j, h1, h2⟩
  · rw [if_pos h1, h2]
    rfl
  · rw [h1, if_neg (by omega), h2]
    unfold rd_T60
    simp
theorem cls_wides (v : Int) : cls v widesL = if inR v [4352, 4447, 8986, 8987, 11904, 12287, 12289, 12350, 12353, 13311, 13312, 19903, 19968, 42191, 43360, 43391, 44032, 55203, 63744, 64255, 65072, 65135, 65280, 65376, 65504, 65510, 127744, 128591, 128640, 128767, 129280, 129535, 131072, 262141] then some 2 else none := by
  unfold widesL

  by_cases g0 : 4352 ≤ v ∧ v ≤ 4447
  · rw [cls, if_pos g0, if_pos (.inl g0)]
  rw [cls, if_neg g0]
  by_cases g1 : 8986 ≤ v ∧ v ≤ 8987
  · rw [cls, if_pos g1, if_pos (.inr (.inl g1))]
  rw [cls, if_neg g1]
  by_cases g2 : 11904 ≤ v ∧ v ≤ 12287
  · rw [cls, if_pos g2, if_pos (.inr (.inr (.inl g2)))]
  rw [cls, if_neg g2]
  by_cases g3 : 12289 ≤ v ∧ v ≤ 12350
  · rw [cls, if_pos g3, if_pos (.inr (.inr (.inr (.inl g3))))]
  rw [cls, if_neg g3]
  by_cases g4 : 12353 ≤ v ∧ v ≤ 13311
  · rw [cls, if_pos g4, if_pos (.inr (.inr (.inr (.inr (.inl g4)))))]
  rw [cls, if_neg g4]
  by_cases g5 : 13312 ≤ v ∧ v ≤ 19903
  · rw [cls, if_pos g5, if_pos (.inr (.inr (.inr (.inr (.inr (.inl g5))))))]
  rw [cls, if_neg g5]
  by_cases g6 : 19968 ≤ v ∧ v ≤ 42191
  · rw [cls, if_pos g6, if_pos (.inr (.inr (.inr (.inr (.inr (.inr (.inl g6)))))))]
  rw [cls, if_neg g6]
  by_cases g7 : 43360 ≤ v ∧ v ≤ 43391
  · rw [cls, if_pos g7, if_pos (.inr (.inr (.inr (.inr (.inr (.inr (.inr (.inl g7))))))))]
  rw [cls, if_neg g7]
  by_cases g8 : 44032 ≤ v ∧ v ≤ 55203
  · rw [cls, if_pos g8, if_pos (.inr (.inr (.inr (.inr (.inr (.inr (.inr (.inr (.inl g8)))))))))]
  rw [cls, if_neg g8]
  by_cases g9 : 63744 ≤ v ∧ v ≤ 64255
  · rw [cls, if_pos g9, if_pos (.inr (.inr (.inr (.inr (.inr (.inr (.inr (.inr (.inr (.inl g9))))))))))]
  rw [cls, if_neg g9]
  by_cases g10 : 65072 ≤ v ∧ v ≤ 65135
  · rw [cls, if_pos g10, if_pos (.inr (.inr (.inr (.inr (.inr (.inr (.inr (.inr (.inr (.inr (.inl g10)))))))))))]
  rw [cls, if_neg g10]
  by_cases g11 : 65280 ≤ v ∧ v ≤ 65376
  · rw [cls, if_pos g11, if_pos (.inr (.inr (.inr (.inr (.inr (.inr (.inr (.inr (.inr (.inr (.inr (.inl g11))))))))))))]
  rw [cls, if_neg g11]
  by_cases g12 : 65504 ≤ v ∧ v ≤ 65510
  · rw [cls, if_pos g12, if_pos (.inr (.inr (.inr (.inr (.inr (.inr (.inr (.inr (.inr (.inr (.inr (.inr (.inl g12)))))))))))))]
  rw [cls, if_neg g12]
  by_cases g13 : 127744 ≤ v ∧ v ≤ 128591
  · rw [cls, if_pos g13, if_pos (.inr (.inr (.inr (.inr (.inr (.inr (.inr (.inr (.inr (.inr (.inr (.inr (.inr (.inl g13))))))))))))))]
  rw [cls, if_neg g13]
  by_cases g14 : 128640 ≤ v ∧ v ≤ 128767
  · rw [cls, if_pos g14, if_pos (.inr (.inr (.inr (.inr (.inr (.inr (.inr (.inr (.inr (.inr (.inr (.inr (.inr (.inr (.inl g14)))))))))))))))]
  rw [cls, if_neg g14]
  by_cases g15 : 129280 ≤ v ∧ v ≤ 129535
  · rw [cls, if_pos g15, if_pos (.inr (.inr (.inr (.inr (.inr (.inr (.inr (.inr (.inr (.inr (.inr (.inr (.inr (.inr (.inr (.inl g15))))))))))))))))]
  rw [cls, if_neg g15]
  by_cases g16 : 131072 ≤ v ∧ v ≤ 262141
  · rw [cls, if_pos g16, if_pos (.inr (.inr (.inr (.inr (.inr (.inr (.inr (.inr (.inr (.inr (.inr (.inr (.inr (.inr (.inr (.inr (.inl g16)))))))))))))))))]
  rw [cls, if_neg g16]
  rw [if_neg (fun h => h.elim (fun h => g0 h) (fun h => h.elim (fun h => g1 h) (fun h => h.elim (fun h => g2 h) (fun h => h.elim (fun h => g3 h) (fun h => h.elim (fun h => g4 h) (fun h => h.elim (fun h => g5 h) (fun h => h.elim (fun h => g6 h) (fun h => h.elim (fun h => g7 h) (fun h => h.elim (fun h => g8 h) (fun h => h.elim (fun h => g9 h) (fun h => h.elim (fun h => g10 h) (fun h => h.elim (fun h => g11 h) (fun h => h.elim (fun h => g12 h) (fun h => h.elim (fun h => g13 h) (fun h => h.elim (fun h => g14 h) (fun h => h.elim (fun h => g15 h) (fun h => h.elim (fun h => g16 h) (fun h => h))))))))))))))))))]
  rfl
def rightB (v : Int) : Bool := decide ((0 ≤ v ∧ v < 55296) ∨ (57343 < v ∧ v ≤ 1114111) ∨ (1114240 ≤ v ∧ v ≤ 1114367))
theorem ref_right (v : Int) : dactylref02_Right.f v = some (rightB v) := by
  unfold dactylref02_Right.f rightB
  repeat' split
  all_goals first
    | exact congrArg some (decide_eq_true (by omega)).symm
    | exact congrArg some (decide_eq_false (by omega)).symm
    | exact congrArg some (decide_eq_decide.mpr (by omega))
theorem prog_point (v : Int) : utf_point.f v = some (decide ((0 ≤ v ∧ v < 55296) ∨ (57343 < v ∧ v ≤ 1114111))) := by
  unfold utf_point.f
  repeat' split
  all_goals first
    | exact congrArg some (decide_eq_true (by omega)).symm
    | exact congrArg some (decide_eq_false (by omega)).symm
    | exact congrArg some (decide_eq_decide.mpr (by omega))
theorem prog_right (v : Int) : utf_Right.f v = some (rightB v) := by
  unfold utf_Right.f rightB
  rw [prog_point]
  simp only [Option.bind_some, decide_eq_true_eq]
  repeat' split
  all_goals first
    | exact congrArg some (decide_eq_true (by omega)).symm
    | exact congrArg some (decide_eq_false (by omega)).symm
    | exact congrArg some (decide_eq_decide.mpr (by omega))
/-- The class of a value. -/
def ofS (v : Int) : Int := if rightB v = true then (if v > 1114111 then 12 else if oddS v > 0 then oddS v else if skelS v = v then (if inR v [4352, 4447, 8986, 8987, 11904, 12287, 12289, 12350, 12353, 13311, 13312, 19903, 19968, 42191, 43360, 43391, 44032, 55203, 63744, 64255, 65072, 65135, 65280, 65376, 65504, 65510, 127744, 128591, 128640, 128767, 129280, 129535, 131072, 262141] then 2 else 1) else 3) else 0
theorem ref_of (k : Nat) (v : Int) (hk : 100 ≤ k) : dactylref03_Of.f k v = some (ofS v) := by
  unfold dactylref03_Of.f ofS
  rw [ref_right, odd_eq k v (by omega), ref_skel k v (by omega), within_eq k v _ (by decide) (by simp only [List.length_cons, List.length_nil]; omega)]
  simp only [Option.bind_some, decide_eq_true_eq]
  repeat' split
  all_goals rfl
theorem odd_cases (v : Int) : oddS v = 0 ∨ 4 ≤ oddS v := by
  unfold oddS
  repeat' split
  all_goals omega
theorem lik_small (v : Int) (h : v < 800) : skelS v = v := by
  have key : ∀ L : List S60, (∀ x ∈ L, 800 ≤ x.f0) → lik v L = none := by
    intro L
    induction L with
    | nil => intro _; rfl
    | cons x L ih =>
      intro hx
      have := hx x (List.mem_cons_self)
      rw [lik, if_neg (by omega)]
      exact ih (fun y hy => hx y (List.mem_cons_of_mem _ hy))
  unfold skelS
  rw [key looksL (by decide)]
  rfl
theorem prog_of (k : Nat) (v : Int) (hk : 10 ≤ k) : class_Of.f k v = some (ofS v) := by
  obtain ⟨k, rfl⟩ : ∃ m, k = m + 1 := ⟨k - 1, by omega⟩
  have hsp : class_spans.f = some spansL := rfl
  have hwi : class_wides.f = some widesL := rfl
  unfold class_Of.f ofS
  rw [prog_right]
  simp only [Option.bind_some]
  by_cases c1 : rightB v = true
  · rw [if_pos c1, if_pos c1]
    by_cases c2 : v > 1114111
    · rw [if_pos c2, if_pos c2]
    · rw [if_neg c2, if_neg c2]
      have h0 : 0 ≤ v := by unfold rightB at c1; have := of_decide_eq_true c1; omega
      have tail : class_Of.j0 (k + 1) v = some (if oddS v > 0 then oddS v else if skelS v = v then (if inR v [4352, 4447, 8986, 8987, 11904, 12287, 12289, 12350, 12353, 13311, 13312, 19903, 19968, 42191, 43360, 43391, 44032, 55203, 63744, 64255, 65072, 65135, 65280, 65376, 65504, 65510, 127744, 128591, 128640, 128767, 129280, 129535, 131072, 262141] then 2 else 1) else 3) := by
        simp only [class_Of.j0]
        rw [hsp, hwi]
        simp only [Option.bind_some]
        rw [class_in_eq v spansL (by decide), class_in_eq v widesL (by decide), cls_odd v h0, prog_skel, cls_wides]
        simp only [Option.bind_some]
        rcases odd_cases v with e | e
        · rw [if_pos e, if_neg (show ¬ oddS v > 0 by omega)]
          by_cases d : skelS v = v
          · rw [if_pos d, if_pos d]
            by_cases f : inR v [4352, 4447, 8986, 8987, 11904, 12287, 12289, 12350, 12353, 13311, 13312, 19903, 19968, 42191, 43360, 43391, 44032, 55203, 63744, 64255, 65072, 65135, 65280, 65376, 65504, 65510, 127744, 128591, 128640, 128767, 129280, 129535, 131072, 262141]
            · rw [if_pos f, if_pos f]
              rfl
            · rw [if_neg f, if_neg f]
              rfl
          · rw [if_neg d, if_neg d]
        · rw [if_neg (show ¬ oddS v = 0 by omega), if_pos (show oddS v > 0 by omega)]
      by_cases c3 : v > 31
      · rw [if_pos c3]
        by_cases c4 : v < 127
        · rw [if_pos c4]
          have e : oddS v = 0 := by
            unfold oddS
            rw [if_neg (by omega), if_neg (by omega), if_neg (by omega), if_neg (show ¬ inR v [160, 160, 5760, 5760, 8192, 8202, 8232, 8233, 8239, 8239, 8287, 8287, 12288, 12288] from fun h => by rcases h with h | h | h | h | h | h | h | h <;> first | omega | exact h.elim), if_neg (show ¬ inR v [173, 173, 6155, 6158, 8203, 8205, 8288, 8292, 65279, 65279, 65529, 65531] from fun h => by rcases h with h | h | h | h | h | h | h <;> first | omega | exact h.elim), if_neg (show ¬ inR v [1564, 1564, 8206, 8207, 8234, 8238, 8294, 8297] from fun h => by rcases h with h | h | h | h | h <;> first | omega | exact h.elim), if_neg (show ¬ inR v [768, 879, 1155, 1161, 1425, 1469, 1552, 1562, 1611, 1631, 1750, 1756, 6832, 6862, 7616, 7679, 8400, 8432, 12330, 12335, 12441, 12442, 65024, 65039, 65056, 65071] from fun h => by rcases h with h | h | h | h | h | h | h | h | h | h | h | h | h | h <;> first | omega | exact h.elim), if_neg (show ¬ inR v [57344, 63743, 64976, 65007, 65520, 65528, 65534, 65535, 131070, 131071, 262142, 1114111] from fun h => by rcases h with h | h | h | h | h | h | h <;> first | omega | exact h.elim)]
          rw [if_neg (by omega), if_pos (lik_small v (by omega)), if_neg (fun h => by rcases h with h | h | h | h | h | h | h | h | h | h | h | h | h | h | h | h | h | h <;> first | omega | exact h.elim)]
        · rw [if_neg c4, tail]
      · rw [if_neg c3, tail]
  · rw [if_neg c1, if_neg c1]
end Go.Proofs.Ytpkmoonfnbcphaa.Q
