/- Plain facts on histories (esc): their texts, and what is read of them. -/
import Derived.Test.YtddkmhkglmcihaaDoorPAllx3
import Derived.Test.YtddkmhkglmcihaaDoorPAllx5
import Derived.Test.YtddkmhkglmcihaaDoorPAllx6
import Derived.Test.YtddkmhkglmcihaaDoorPAllx4
import Derived.Test.YtddkmhkglmcihaaDoorQBytes
import Derived.Test.YtddkmhkglmcihaaDoorQEsc1
import Derived.Test.YtddkmhkglmcihaaDoorQEsc2
import Derived.Test.YtddkmhkglmcihaaDoorQEsc3
set_option linter.unusedVariables false
set_option linter.unusedSimpArgs false
namespace Go.Proofs.YtddkmhkglmcihaaDoor.Q
open Go.RowKit Go.Proofs.YtddkmhkglmcihaaDoor.PAll Go.Proofs.YtddkmhkglmcihaaDoorW.PrintWords Go.Proofs.YtddkmhkglmcihaaDoorW.PrintLast Go.Proofs.YtddkmhkglmcihaaDoorW.PrintMore
abbrev Ent := List Sg
theorem rdL_at (h : List Ent) (i : Nat) (c : i < h.length) : rd_L2 h (i : Int) = h[i] := by
  unfold rd_L2
  rw [Int.toNat_natCast, List.getD_eq_getElem?_getD, List.getElem?_eq_getElem c]
  rfl
def okH (h : List Ent) : Bool := h.all fun l => l.all okS
/-- A history's text. -/
def textH (h : List Ent) : List UInt8 := (h.map fun l => lineS l ++ [10]).flatten
theorem textH_cons (l : Ent) (h : List Ent) : textH (l :: h) = lineS l ++ 10 :: textH h := by simp [textH]
def Small (h : List Ent) : Prop := h.length ≤ 1000 ∧ ∀ l ∈ h, l.length ≤ 1000
theorem hist_prog (h : List Ent) (hs : Small h) (k : Nat) (hk : h.length + 1100 ≤ k) : ∃ b e, esc_Text.f k h = some (b, e) ∧ (okH h = true → e = 0 ∧ L b = textH h) ∧ (¬ okH h = true → e = 2 ∧ b = ⟨#[]⟩) := by
  have key : ∀ (n k i : Nat) (acc : ByteArray), h.length - i ≤ n → n + 1050 ≤ k → i ≤ h.length → acc.size ≤ 9000 * i → ∃ b e, esc_Text.l0 k acc h (h.length : Int) (i : Int) = some (b, e) ∧ (okH (h.drop i) = true → e = 0 ∧ L b = L acc ++ textH (h.drop i)) ∧ (¬ okH (h.drop i) = true → e = 2 ∧ b = ⟨#[]⟩) := by
    intro n
    induction n with
    | zero =>
      intro k i acc h0 hk hi ha
      obtain ⟨k, rfl⟩ : ∃ m, k = m + 1 := ⟨k - 1, by omega⟩
      simp only [esc_Text.l0]
      rw [if_neg (by omega), List.drop_eq_nil_of_le (by omega)]
      exact ⟨acc, 0, rfl, fun _ => ⟨rfl, by simp [textH]⟩, fun g => absurd rfl g⟩
    | succ n ih =>
      intro k i acc h0 hk hi ha
      obtain ⟨k, rfl⟩ : ∃ m, k = m + 1 := ⟨k - 1, by omega⟩
      simp only [esc_Text.l0]
      by_cases c : i < h.length
      · have hll := hs.2 _ (List.getElem_mem c)
        have hlen := hs.1
        have ed : h.drop i = h[i] :: h.drop (i + 1) := List.drop_eq_getElem_cons c
        rw [if_pos (by omega), if_pos (by omega), if_pos (by omega), rdL_at h i c]
        by_cases g : h[i].all okS = true
        · obtain ⟨b, h1, h2⟩ := line_prog h[i] (by omega) k (by omega) g
          have hbl := lineS_len h[i]
          have hbs : b.size = (lineS h[i]).length := by rw [← L_len, h2]
          have hs1 : (b ++ (⟨#[10]⟩ : ByteArray)).size = b.size + 1 := by rw [ByteArray.size_append]; rfl
          obtain ⟨r, e, h3, h4, h5⟩ := ih k (i + 1) (acc ++ (b ++ ⟨#[10]⟩)) (by omega) (by omega) (by omega) (by rw [ByteArray.size_append, hs1]; omega)
          refine ⟨r, e, ?_, ?_, ?_⟩
          · rw [h1]
            simp only [Option.bind_some, if_true]
            rw [if_pos (by omega), if_pos (by rw [hs1]; omega), w64_succ i (by omega), h3]
          · intro ho
            rw [ed] at ho
            unfold okH at ho
            rw [List.all_cons, Bool.and_eq_true] at ho
            obtain ⟨h6, h7⟩ := h4 ho.2
            refine ⟨h6, ?_⟩
            rw [h7, ed, textH_cons, L_app, L_app, h2, List.append_assoc, List.append_assoc]
            rfl
          · intro ho
            refine h5 (fun g2 => ho ?_)
            rw [ed]
            unfold okH at g2 ⊢
            rw [List.all_cons, g, g2]
            rfl
        · refine ⟨⟨#[]⟩, 2, ?_, ?_, fun _ => ⟨rfl, rfl⟩⟩
          · rw [line_bad h[i] (by omega) k g]
            rfl
          · intro ho
            rw [ed] at ho
            unfold okH at ho
            rw [List.all_cons, Bool.and_eq_true] at ho
            exact absurd ho.1 g
      · rw [if_neg (by omega), List.drop_eq_nil_of_le (by omega)]
        exact ⟨acc, 0, rfl, fun _ => ⟨rfl, by simp [textH]⟩, fun g => absurd rfl g⟩
  obtain ⟨b, e, h1, h2, h3⟩ := key h.length k 0 ⟨#[]⟩ (by omega) (by omega) (by omega) (by decide)
  rw [List.drop_zero] at h2 h3
  exact ⟨b, e, h1, fun g => ⟨(h2 g).1, (h2 g).2⟩, h3⟩
theorem all_hist (h : List Ent) (hs : Small h) (k : Nat) (hk : h.length + 1100 ≤ k) : dactylref22_All.f k h = some (okH h) := by
  have key : ∀ (n k i : Nat), h.length - i ≤ n → n + 1050 ≤ k → i ≤ h.length → dactylref22_All.l0 k h (i : Int) = some (okH (h.drop i)) := by
    intro n
    induction n with
    | zero =>
      intro k i h0 hk hi
      obtain ⟨k, rfl⟩ : ∃ m, k = m + 1 := ⟨k - 1, by omega⟩
      simp only [dactylref22_All.l0]
      rw [if_neg (by omega), List.drop_eq_nil_of_le (by omega)]
      rfl
    | succ n ih =>
      intro k i h0 hk hi
      obtain ⟨k, rfl⟩ : ∃ m, k = m + 1 := ⟨k - 1, by omega⟩
      simp only [dactylref22_All.l0]
      by_cases c : i < h.length
      · have hll := hs.2 _ (List.getElem_mem c)
        have hlen := hs.1
        rw [if_pos (by omega), if_pos (by omega), rdL_at h i c, all_sign _ k (by omega) (by omega), List.drop_eq_getElem_cons c, w64_succ i (by omega), ih k (i + 1) (by omega) (by omega) (by omega)]
        simp only [Option.bind_some, okH, List.all_cons]
        cases h[i].all okS <;> rfl
      · rw [if_neg (by omega), List.drop_eq_nil_of_le (by omega)]
        rfl
  exact key h.length k 0 (by omega) (by omega) (by omega)
theorem hist_ref (h : List Ent) (hs : Small h) (k : Nat) (hk : h.length + 1100 ≤ k) (ho : okH h = true) : ∃ b, dactylref22_Text.f k h = some b ∧ L b = textH h := by
  have key : ∀ (n k i : Nat) (acc : List UInt8), h.length - i ≤ n → n + 1050 ≤ k → i ≤ h.length → acc.length ≤ 9000 * i → ∃ b, dactylref22_Text.l0 k h (acc.map fun c => (c.toNat : Int)) (i : Int) = some b ∧ L b = acc ++ textH (h.drop i) := by
    intro n
    induction n with
    | zero =>
      intro k i acc h0 hk hi ha
      obtain ⟨k, rfl⟩ : ∃ m, k = m + 1 := ⟨k - 1, by omega⟩
      simp only [dactylref22_Text.l0]
      rw [if_neg (by omega), List.drop_eq_nil_of_le (by omega)]
      exact ⟨_, rfl, by rw [nums_back]; simp [textH]⟩
    | succ n ih =>
      intro k i acc h0 hk hi ha
      obtain ⟨k, rfl⟩ : ∃ m, k = m + 1 := ⟨k - 1, by omega⟩
      simp only [dactylref22_Text.l0]
      by_cases c : i < h.length
      · have hll := hs.2 _ (List.getElem_mem c)
        have hlen := hs.1
        have g : h[i].all okS = true := List.all_eq_true.mp ho _ (List.getElem_mem c)
        obtain ⟨b, h1, h2⟩ := line_ref h[i] (by omega) k (by omega) g
        have hbl := lineS_len h[i]
        have hbs : b.size = (lineS h[i]).length := by rw [← L_len, h2]
        have er : dactylref22_Text.row h (i : Int) = h[i] := rdL_at h i c
        have eb : ((acc.map fun c => (c.toNat : Int)) ++ dactylref22_Line.b b) ++ [10] = (acc ++ (L b ++ [10])).map fun c : UInt8 => (c.toNat : Int) := by
          rw [List.map_append, List.map_append, List.append_assoc]
          rfl
        obtain ⟨r, h3, h4⟩ := ih k (i + 1) (acc ++ (L b ++ [10])) (by omega) (by omega) (by omega) (by rw [List.length_append, List.length_append, L_len, List.length_singleton]; omega)
        refine ⟨r, ?_, ?_⟩
        · rw [if_pos (by omega), if_pos (by omega), er, h1]
          simp only [Option.bind_some]
          rw [if_pos (by rw [List.length_map]; omega), w64_succ i (by omega), eb, h3]
        · rw [h4, h2, List.drop_eq_getElem_cons c, textH_cons, List.append_assoc, List.append_assoc]
          rfl
      · rw [if_neg (by omega), List.drop_eq_nil_of_le (by omega)]
        exact ⟨_, rfl, by rw [nums_back]; simp [textH]⟩
  obtain ⟨b, h1, h2⟩ := key h.length k 0 [] (by omega) (by omega) (by omega) (by decide)
  exact ⟨b, h1, by simpa using h2⟩
theorem index_at (d : List UInt8) (c : UInt8) (r : List UInt8) (h : c ∉ d) : Lib.indexByte (d ++ c :: r) c = (d.length : Int) := by
  induction d with
  | nil =>
    show (if c == c then (0 : Int) else _) = 0
    rw [if_pos (beq_self_eq_true c)]
  | cons x d ih =>
    have hx : (x == c) = false := beq_eq_false_iff_ne.mpr (fun e => h (by rw [e]; exact List.mem_cons_self))
    have h2 := ih (fun hm => h (List.mem_cons_of_mem _ hm))
    show (if x == c then (0 : Int) else if Lib.indexByte (d ++ c :: r) c == -1 then -1 else Lib.indexByte (d ++ c :: r) c + 1) = _
    rw [hx, h2]
    simp only [Bool.false_eq_true, if_false, List.length_cons]
    rw [if_neg (by rw [beq_iff_eq]; omega)]
    omega
theorem no10 (l : Ent) : (10 : UInt8) ∉ lineS l := fun hm => by
  have := (lineS_bytes l 10 hm).1
  exact absurd this (by decide)
theorem splitK_text (h : List Ent) : Lib.splitK [10] 0 h.length (textH h) = h.map lineS ++ [[]] := by
  induction h with
  | nil => rfl
  | cons l h ih =>
    have hi : Lib.index (textH (l :: h)) [10] = ((lineS l).length : Int) := by
      rw [Lib.index_one, textH_cons, index_at _ _ _ (no10 l)]
    rw [List.length_cons, Lib.splitK, hi, if_neg (by rw [beq_iff_eq]; omega), Int.toNat_natCast, textH_cons]
    have e1 : (lineS l ++ 10 :: textH h).take ((lineS l).length + 0) = lineS l := by rw [Nat.add_zero, List.take_left]
    have e2 : (lineS l ++ 10 :: textH h).drop ((lineS l).length + [(10 : UInt8)].length) = textH h := by
      rw [← List.drop_drop, List.drop_left]
      rfl
    rw [e1, e2, ih]
    rfl
theorem count_text (h : List Ent) : (textH h).count 10 = h.length := by
  induction h with
  | nil => rfl
  | cons l h ih =>
    rw [textH_cons, List.count_append, List.count_eq_zero_of_not_mem (no10 l), List.count_cons_self, ih, List.length_cons]
    omega
theorem split_text (h : List Ent) (b : ByteArray) (hb : L b = textH h) (hs : b.size < 4294967281) : ∃ ps, strings_Split.f b ⟨#[10]⟩ = some ps ∧ ps.map L = h.map lineS ++ [[]] := by
  refine ⟨Lib.splitB ⟨#[10]⟩ 0 (Lib.countB b ⟨#[10]⟩) b, ?_, ?_⟩
  · unfold strings_Split.f
    rw [if_pos ⟨rfl, hs⟩]
  · have hc : Lib.countB b ⟨#[10]⟩ = h.length := by
      show Lib.count b.data.toList [10] = _
      rw [Lib.count_one, show b.data.toList = textH h from hb, count_text]
    rw [hc]
    have := Lib.splitB_data ⟨#[10]⟩ 0 h.length b
    rw [show b.data.toList = textH h from hb] at this
    exact this.trans (splitK_text h)
/-- The entries of a history that have signs, as of a history. -/
def fullH (h : List Ent) : List Ent := (h.filter fun l => decide (0 < l.length)).map fun l => withS l 3
theorem fullH_cons (l : Ent) (h : List Ent) : fullH (l :: h) = if 0 < l.length then withS l 3 :: fullH h else fullH h := by
  unfold fullH
  rw [List.filter_cons]
  by_cases c : 0 < l.length
  · rw [if_pos (decide_eq_true c), if_pos c]
    rfl
  · rw [if_neg (by simp at c ⊢; exact c), if_neg c]
theorem withS_len (l : Ent) (a : Int) : (withS l a).length = l.length := by simp [withS]
theorem fullH_len (h : List Ent) : (fullH h).length ≤ h.length := by
  unfold fullH
  rw [List.length_map]
  exact List.length_filter_le _ _
theorem drop_0 (x : Int) (l : List Ent) (hl : (l.length : Int) ≤ mx x 0) (hx : x ≤ 1000000) : (mx (wrap64 ((l.length : Int) - mx x 0)) 0) = 0 := by
  unfold mx at hl ⊢
  unfold wrap64
  repeat' split at hl
  all_goals (repeat' split)
  all_goals omega
theorem read_text (h : List Ent) (ho : okH h = true) (hsm : Small h) (most long : Int) (hm : (h.length : Int) ≤ most) (hm2 : most ≤ 1000000) (hl : ∀ l ∈ h, (l.length : Int) ≤ long) (hl0 : 0 ≤ long) (b : ByteArray) (hb : L b = textH h) (k : Nat) (hk : h.length + 100 ≤ k) : esc_Read.f k b most long = some (fullH h) := by
  have hbs : b.size ≤ 9000 * h.length := by
    have : ∀ m : List Ent, (∀ l ∈ m, l.length ≤ 1000) → (textH m).length ≤ 9000 * m.length := by
      intro m
      induction m with
      | nil => intro _; exact Nat.le_refl _
      | cons l m ih =>
        intro g
        have g1 := g l List.mem_cons_self
        have g2 := ih (fun x hx => g x (List.mem_cons_of_mem _ hx))
        have g3 := lineS_len l
        rw [textH_cons, List.length_append, List.length_cons, List.length_cons]
        omega
    have h2 := this h hsm.2
    rw [← hb, L_len] at h2
    exact h2
  have hlen := hsm.1
  obtain ⟨ps, h1, h2⟩ := split_text h b hb (by omega)
  have hpl : ps.length = h.length + 1 := by
    have := congrArg List.length h2
    simpa using this
  have hp : ∀ (i : Nat) (c : i < ps.length), L ps[i] = if c2 : i < h.length then lineS h[i] else [] := by
    intro i c
    have : (ps.map L)[i]'(by simpa using c) = L ps[i] := by simp
    rw [← this]
    simp only [h2]
    by_cases c2 : i < h.length
    · rw [dif_pos c2, List.getElem_append_left (by simpa using c2)]
      simp
    · rw [dif_neg c2, List.getElem_append_right (by simp; omega)]
      simp
  have key : ∀ (n k i : Nat) (acc : List Ent), ps.length - i ≤ n → n + 50 ≤ k → i ≤ ps.length → acc.length ≤ i → acc ++ fullH (h.drop i) = fullH h → esc_Read.l0 k most long acc ps (ps.length : Int) (i : Int) = some (fullH h) := by
    intro n
    induction n with
    | zero =>
      intro k i acc h0 hk hi ha he
      obtain ⟨k, rfl⟩ : ∃ m, k = m + 1 := ⟨k - 1, by omega⟩
      have hacc : acc = fullH h := by rw [List.drop_eq_nil_of_le (by omega)] at he; simpa [fullH] using he
      have hfl := fullH_len h
      simp only [esc_Read.l0]
      rw [if_neg (by omega), hacc, drop_0 most (fullH h) (by unfold mx; split <;> omega) hm2, if_pos (Int.le_refl _), if_pos (by omega)]
      rfl
    | succ n ih =>
      intro k i acc h0 hk hi ha he
      obtain ⟨k, rfl⟩ : ∃ m, k = m + 1 := ⟨k - 1, by omega⟩
      by_cases c : i < ps.length
      · simp only [esc_Read.l0]
        have er : rdOf ByteArray.empty ps (i : Int) = ps[i] := by
          unfold rdOf
          rw [Int.toNat_natCast, List.getD_eq_getElem?_getD, List.getElem?_eq_getElem c]
          rfl
        rw [if_pos (by omega), if_pos (by omega), if_pos (by omega), er, w64_succ i (by omega)]
        have hpi := hp i c
        by_cases c2 : i < h.length
        · rw [dif_pos c2] at hpi
          have hmem := List.getElem_mem c2
          have hu := unline_line h[i] (List.all_eq_true.mp ho _ hmem) ps[i] hpi (hsm.2 _ hmem) long (hl _ hmem) k (by omega)
          rw [hu]
          simp only [Option.bind_some]
          rw [List.drop_eq_getElem_cons c2, fullH_cons] at he
          by_cases c3 : 0 < h[i].length
          · rw [if_pos c3] at he
            rw [if_pos (by rw [withS_len]; omega), if_pos (by omega)]
            exact ih k (i + 1) _ (by omega) (by omega) (by omega) (by rw [List.length_append, List.length_singleton]; omega) (by rw [List.append_assoc]; exact he)
          · rw [if_neg c3] at he
            rw [if_neg (by rw [withS_len]; omega)]
            exact ih k (i + 1) _ (by omega) (by omega) (by omega) (by omega) he
        · rw [dif_neg c2] at hpi
          have hu := unline_line [] rfl ps[i] hpi (by simp) long (by simpa using hl0) k (by omega)
          rw [hu]
          simp only [Option.bind_some]
          rw [if_neg (by simp [withS])]
          rw [List.drop_eq_nil_of_le (by omega)] at he
          exact ih k (i + 1) _ (by omega) (by omega) (by omega) (by omega) (by rw [List.drop_eq_nil_of_le (by omega)]; exact he)
      · have hacc : acc = fullH h := by rw [List.drop_eq_nil_of_le (by omega)] at he; simpa [fullH] using he
        have hfl := fullH_len h
        simp only [esc_Read.l0]
        rw [if_neg (by omega), hacc, drop_0 most (fullH h) (by unfold mx; split <;> omega) hm2, if_pos (Int.le_refl _), if_pos (by omega)]
        rfl
  unfold esc_Read.f
  rw [h1]
  simp only [Option.bind_some]
  exact key ps.length k 0 [] (by omega) (by omega) (by omega) (by simp) rfl
end Go.Proofs.YtddkmhkglmcihaaDoor.Q
