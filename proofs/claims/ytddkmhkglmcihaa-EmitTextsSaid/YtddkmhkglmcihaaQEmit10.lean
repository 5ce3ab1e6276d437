/- Plain facts: the skeleton of pieces that may be: the program and the reference tell the same. -/
import Derived.Test.YtddkmhkglmcihaaPAllx8
import Derived.Test.YtddkmhkglmcihaaPAllx15
import Derived.Test.YtddkmhkglmcihaaPAllx6
import Derived.Test.YtddkmhkglmcihaaPAllx9
import Derived.Test.YtddkmhkglmcihaaQEmit3
set_option linter.unusedVariables false
set_option linter.unusedSimpArgs false
namespace Go.Proofs.Ytddkmhkglmcihaa.Q
open Go.RowKit Go.Proofs.Ytddkmhkglmcihaa.PAll Go.Proofs.YtddkmhkglmcihaaW.PrintWords Go.Proofs.YtddkmhkglmcihaaW.PrintLast Go.Proofs.YtddkmhkglmcihaaW.PrintMore
/-- Of how many columns values are. -/
def sumW (l : List Int) : Int := (l.map widS).sum
theorem sumW_cons (v : Int) (l : List Int) : sumW (v :: l) = widS v + sumW l := by simp [sumW]
theorem sumW_app (a b : List Int) : sumW (a ++ b) = sumW a + sumW b := by simp [sumW]
theorem sumW_range (l : List Int) : 0 ≤ sumW l ∧ sumW l ≤ 2 * l.length := by
  induction l with
  | nil => exact ⟨Int.le_refl _, Int.le_refl _⟩
  | cons v l ih => rw [sumW_cons, List.length_cons]; have := wid_range v; omega
def colsT (t : ByteArray) : Int := sumW (vals (L t))
theorem colsT_range (t : ByteArray) : 0 ≤ colsT t ∧ colsT t ≤ 2 * t.size := by
  have h1 := sumW_range (vals (L t))
  have h2 := vals_len (L t)
  rw [L_len] at h2
  unfold colsT
  omega
theorem colsT_pos (t : ByteArray) (h : plainT (L t) = true) : 0 < colsT t := by
  unfold plainT at h
  simp only [Bool.and_eq_true, Bool.not_eq_true'] at h
  obtain ⟨h1, h2⟩ := h
  have hne : L t ≠ [] := fun e => by rw [e] at h1; cases h1
  unfold colsT
  rw [vals_cons _ hne] at h2 ⊢
  rw [List.all_cons, Bool.and_eq_true] at h2
  have h3 := h2.1
  have h4 := wid_range (one (L t)).1
  have h5 := sumW_range (vals ((L t).drop (one (L t)).2))
  have : widS (one (L t)).1 ≠ 0 := by simpa using h3
  rw [sumW_cons]
  omega
/-- A piece without what its text says. -/
def mute (o : O) : O := if o.f0 = 0 then ⟨0, colsT o.f3, 0, ⟨#[]⟩⟩ else o
theorem mute_f0 (o : O) : (mute o).f0 = o.f0 := by
  unfold mute
  split
  · rename_i h; rw [h]
  · rfl
/-- Pieces without what their texts say. -/
def skelO (l : List O) : List O := (joinS l).map mute
def pstep (out : List O) (o : O) : List O :=
  if o.f0 = 0 then (if out ≠ [] ∧ (last out).f0 = 0 then out.take (out.length - 1) ++ [⟨(last out).f0, (last out).f1 + colsT o.f3, (last out).f2, (last out).f3⟩] else out ++ [⟨0, colsT o.f3, 0, ⟨#[]⟩⟩]) else out ++ [o]
theorem last_map (f : O → O) (out : List O) (h : out ≠ []) : last (out.map f) = f (last out) := by
  rcases List.eq_nil_or_concat out with e | ⟨o2, p, e⟩
  · exact absurd e h
  · rw [List.concat_eq_append] at e
    subst e
    rw [List.map_append, List.map_singleton, last_snoc, last_snoc]
theorem pstep_mute (out : List O) (o : O) (hout : ∀ x ∈ out, mayB x = true) (ho : mayB o = true) : pstep (out.map mute) o = (joinStep out o).map mute := by
  unfold pstep joinStep
  by_cases c : o.f0 = 0
  · rw [if_pos c]
    by_cases d : out = []
    · subst d
      rw [if_neg (fun h => h.1 rfl), if_neg (fun h => h.1 rfl), List.map_append, List.map_singleton]
      unfold mute
      rw [if_pos c]
    · rw [last_map mute out d]
      by_cases e : (last out).f0 = 0
      · rw [if_pos ⟨fun h => d (List.map_eq_nil_iff.mp h), by rw [mute_f0]; exact e⟩, if_pos ⟨d, c, e⟩, List.map_append, List.map_singleton, List.length_map, ← List.map_take]
        congr 2
        have hm : mute (last out) = ⟨0, colsT (last out).f3, 0, ⟨#[]⟩⟩ := by unfold mute; rw [if_pos e]
        have hm2 : mute (merge (last out) o) = ⟨0, colsT ((last out).f3 ++ o.f3), 0, ⟨#[]⟩⟩ := by
          unfold mute merge
          rw [if_pos e]
        have hp : plainT (L o.f3) = true := ((may_0 o c).mp ho).2.2
        rw [hm, hm2]
        have : colsT ((last out).f3 ++ o.f3) = colsT (last out).f3 + colsT o.f3 := by
          unfold colsT
          rw [L_app, vals_app _ _ (plain_fresh _ hp), sumW_app]
        rw [this]
      · rw [if_neg (fun h => e (by have := h.2; rw [mute_f0] at this; exact this)), if_neg (fun h => e h.2.2), List.map_append, List.map_singleton]
        congr 2
        unfold mute
        rw [if_pos c]
  · rw [if_neg c, if_neg (fun h => c h.2.1), List.map_append, List.map_singleton]
    congr 2
    unfold mute
    rw [if_neg c]
theorem pfold_mute (l : List O) : ∀ out : List O, (∀ x ∈ out, mayB x = true) → (∀ x ∈ l, mayB x = true) → l.foldl pstep (out.map mute) = (l.foldl joinStep out).map mute := by
  induction l with
  | nil => intro out _ _; rfl
  | cons o l ih =>
    intro out h1 h2
    rw [List.foldl_cons, List.foldl_cons, pstep_mute out o h1 (h2 o List.mem_cons_self)]
    exact ih _ (may_step out o h1 (h2 o List.mem_cons_self)) (fun x hx => h2 x (List.mem_cons_of_mem _ hx))
theorem pfold_eq (l : List O) (h : ∀ x ∈ l, mayB x = true) : l.foldl pstep [] = skelO l := pfold_mute l [] (fun x hx => by cases hx) h
theorem pstep_len (out : List O) (o : O) : (pstep out o).length ≤ out.length + 1 := by
  unfold pstep
  repeat' split
  all_goals simp
  all_goals omega
/-- The open text's columns: what a round may add to. -/
def numOK (m : Int) (out : List O) : Prop := ∀ o ∈ out, o.f0 = 0 → 0 ≤ o.f1 ∧ o.f1 ≤ m
theorem pstep_num (m : Int) (out : List O) (o : O) (h : numOK m out) (hm : 0 ≤ m) : numOK (m + colsT o.f3) (pstep out o) := by
  have hc := colsT_range o.f3
  intro x hx hx0
  unfold pstep at hx
  split at hx
  · split at hx
    · rename_i h2
      rcases List.mem_append.mp hx with hx | hx
      · have := h x (List.mem_of_mem_take hx) hx0
        omega
      · rw [List.mem_singleton] at hx
        subst hx
        have hl : last out ∈ out := by
          rcases List.eq_nil_or_concat out with e | ⟨o2, p, e⟩
          · exact absurd e h2.1
          · rw [List.concat_eq_append] at e
            subst e
            rw [last_snoc]
            simp
        have := h _ hl h2.2
        simp only
        omega
    · rcases List.mem_append.mp hx with hx | hx
      · have := h x hx hx0
        omega
      · rw [List.mem_singleton] at hx
        subst hx
        simp only
        omega
  · rename_i h2
    rcases List.mem_append.mp hx with hx | hx
    · have := h x hx hx0
      omega
    · rw [List.mem_singleton] at hx
      subst hx
      exact absurd hx0 h2
theorem w64_small (x : Int) (h0 : 0 ≤ x) (h1 : x ≤ 9223372036854775807) : wrap64 x = x := by
  unfold wrap64
  omega
theorem wid_l1 (vs : List Int) (hl : vs.length ≤ 1000000) (K : Nat) (x3 : List O) (x4 : Bool) (l : List O) (x11 x12 : Int) (res : Option (List O)) : ∀ (n k i : Nat) (acc : Int), vs.length - i ≤ n → n + K + 20 ≤ k → i ≤ vs.length → acc = sumW (vs.take i) →
    (∀ k', K ≤ k' → (if sumW vs > 0 then emit_Skeleton.j2 k' x3 x4 (sumW vs) l x11 x12 (!x4) else emit_Skeleton.j2 k' x3 x4 (sumW vs) l x11 x12 false) = res) → emit_Skeleton.l1 k x3 x4 acc l x11 x12 vs (vs.length : Int) (i : Int) = res := by
  intro n
  induction n with
  | zero =>
    intro k i acc h0 hk hi ha hres
    obtain ⟨k, rfl⟩ : ∃ m, k = m + 1 := ⟨k - 1, by omega⟩
    have : acc = sumW vs := by rw [ha, List.take_of_length_le (by omega)]
    subst this
    simp only [emit_Skeleton.l1]
    rw [if_neg (by omega)]
    exact hres k (by omega)
  | succ n ih =>
    intro k i acc h0 hk hi ha hres
    by_cases c : i < vs.length
    · obtain ⟨k, rfl⟩ : ∃ m, k = m + 1 := ⟨k - 1, by omega⟩
      have c1 : (i : Int) < (vs.length : Int) := by omega
      have c0 : 0 ≤ (i : Int) := by omega
      have hk10 : 10 ≤ k := by omega
      have h1_ : vs.length - (i + 1) ≤ n := by omega
      have h2_ : n + K + 20 ≤ k := by omega
      have h3_ : i + 1 ≤ vs.length := by omega
      have w2 : wrap64 ((i : Int) + 1) = ((i + 1 : Nat) : Int) := by unfold wrap64; omega
      simp only [emit_Skeleton.l1]
      have hr : rd vs (i : Int) = vs[i] := by
        unfold rd
        rw [Int.toNat_natCast, List.getD_eq_getElem?_getD, List.getElem?_eq_getElem c]
        rfl
      have e : sumW (vs.take (i + 1)) = acc + widS vs[i] := by
        rw [List.take_succ_eq_append_getElem c, sumW_app, ha]
        simp [sumW]
      have hb := sumW_range (vs.take (i + 1))
      have hbl : (vs.take (i + 1)).length ≤ vs.length := List.length_take_le' _ _
      have w1 : wrap64 (acc + widS vs[i]) = sumW (vs.take (i + 1)) := by rw [← e]; exact w64_small _ hb.1 (by omega)
      rw [if_pos c1, if_pos c0, if_pos c1, hr, prog_wid k _ hk10]
      simp only [Option.bind_some]
      rw [w1, w2]
      exact ih k (i + 1) _ h1_ h2_ h3_ rfl hres
    · obtain ⟨k, rfl⟩ : ∃ m, k = m + 1 := ⟨k - 1, by omega⟩
      have : acc = sumW vs := by rw [ha, List.take_of_length_le (by omega)]
      subst this
      simp only [emit_Skeleton.l1]
      rw [if_neg (by omega)]
      exact hres k (by omega)
theorem set_last (out : List O) (x : O) (h : out ≠ []) : out.set (out.length - 1) x = out.take (out.length - 1) ++ [x] := by
  rcases List.eq_nil_or_concat out with e | ⟨o2, p, e⟩
  · exact absurd e h
  · rw [List.concat_eq_append] at e
    subst e
    simp
theorem skel_prog (l : List O) (hf : l.length ≤ 1000 ∧ ∀ o ∈ l, o.f3.size ≤ 1000) (hm : ∀ x ∈ l, mayB x = true) : ∀ (n k i : Nat) (out : List O) (open_ : Bool), l.length - i ≤ n → 2000 * n + 10 ≤ k → i ≤ l.length → out.length ≤ i → numOK (2000 * i) out → (open_ = true ↔ (out ≠ [] ∧ (last out).f0 = 0)) →
    emit_Skeleton.l0 k out open_ l (l.length : Int) (i : Int) = some ((l.drop i).foldl pstep out) := by
  intro n
  induction n with
  | zero =>
    intro k i out open_ h0 hk hi _ _ _
    obtain ⟨k, rfl⟩ : ∃ m, k = m + 1 := ⟨k - 1, by omega⟩
    simp only [emit_Skeleton.l0]
    rw [if_neg (by omega), List.drop_eq_nil_of_le (by omega)]
    rfl
  | succ n ih =>
    intro k i out open_ h0 hk hi hlen hnum hopen
    obtain ⟨k, rfl⟩ : ∃ m, k = m + 1 := ⟨k - 1, by omega⟩
    by_cases c : i < l.length
    · have w1 : wrap64 ((i : Int) + 1) = ((i + 1 : Nat) : Int) := by have := hf.1; unfold wrap64; omega
      have hi1000 := hf.1
      have hmem : l[i] ∈ l := List.getElem_mem c
      have hsz := hf.2 _ hmem
      have hmay := hm _ hmem
      have hcr := colsT_range l[i].f3
      have hstep := pstep_num (2000 * i) out l[i] hnum (by omega)
      have hplen := pstep_len out l[i]
      rw [List.drop_eq_getElem_cons c, List.foldl_cons]
      have go : ∀ k', 2000 * n + 10 ≤ k' → ∀ b, (b = true ↔ (pstep out l[i] ≠ [] ∧ (last (pstep out l[i])).f0 = 0)) → emit_Skeleton.l0 k' (pstep out l[i]) b l (l.length : Int) ((i + 1 : Nat) : Int) = some ((l.drop (i + 1)).foldl pstep (pstep out l[i])) := fun k' hk' b hb =>
        ih k' (i + 1) _ b (by omega) hk' (by omega) (by omega) (fun x hx hx0 => by have := hstep x hx hx0; omega) hb
      simp only [emit_Skeleton.l0]
      rw [if_pos (by omega), if_pos (by omega), if_pos (by omega), rd_at l i c]
      by_cases d : l[i].f0 = 0
      · rw [if_pos d, prog_dec _ (by omega)]
        simp only [Option.bind_some]
        have hp : plainT (L l[i].f3) = true := ((may_0 _ d).mp hmay).2.2
        have hpos : 0 < sumW (vals (L l[i].f3)) := colsT_pos _ hp
        have hvl := vals_len (L l[i].f3)
        rw [L_len] at hvl
        refine wid_l1 _ (by omega) (2000 * n + 12) out open_ l _ _ _ _ k 0 0 (Nat.le_refl _) (by omega) (by omega) rfl (fun k' hk' => ?_)
        rw [if_pos hpos]
        obtain ⟨k', rfl⟩ : ∃ m, k' = m + 1 := ⟨k' - 1, by omega⟩
        simp only [emit_Skeleton.j2]
        by_cases e : out ≠ [] ∧ (last out).f0 = 0
        · have hob : open_ = true := hopen.mpr e
          have hl1 : 0 < out.length := List.length_pos_iff.mpr e.1
          have hlm : last out ∈ out := by
            rcases List.eq_nil_or_concat out with e' | ⟨o2, p, e'⟩
            · exact absurd e' e.1
            · rw [List.concat_eq_append] at e'
              subst e'
              rw [last_snoc]
              simp
          have hln := hnum _ hlm e.2
          have w3 : wrap64 ((out.length : Int) - 1) = ((out.length - 1 : Nat) : Int) := by unfold wrap64; omega
          have w4 : wrap64 ((last out).f1 + sumW (vals (L l[i].f3))) = (last out).f1 + colsT l[i].f3 := by unfold colsT at hcr ⊢; unfold wrap64; omega
          have hr : rd_T31 out (((out.length - 1 : Nat)) : Int) = last out := rfl
          rw [hob, Bool.not_true, if_neg (by decide), if_pos hpos, w3, if_pos (by omega), if_pos (by omega), hr, w4, w1, Int.toNat_natCast, set_last out _ e.1]
          have hps : pstep out l[i] = out.take (out.length - 1) ++ [⟨(last out).f0, (last out).f1 + colsT l[i].f3, (last out).f2, (last out).f3⟩] := by unfold pstep; rw [if_pos d, if_pos e]
          rw [← hps]
          exact go k' (by omega) true ⟨fun _ => ⟨by rw [hps]; simp, by rw [hps, last_snoc]; exact e.2⟩, fun _ => rfl⟩
        · have hob : open_ = false := by
            cases open_ with
            | false => rfl
            | true => exact absurd (hopen.mp rfl) e
          have hps : pstep out l[i] = out ++ [⟨0, colsT l[i].f3, 0, ⟨#[]⟩⟩] := by unfold pstep; rw [if_pos d, if_neg e]
          have hl2 : (out ++ [(⟨0, 0, 0, ⟨#[]⟩⟩ : O)]).length = out.length + 1 := by simp
          have w3 : wrap64 (((out.length + 1 : Nat) : Int) - 1) = ((out.length : Nat) : Int) := by unfold wrap64; omega
          have hr : rd_T31 (out ++ [(⟨0, 0, 0, ⟨#[]⟩⟩ : O)]) ((out.length : Nat) : Int) = (⟨0, 0, 0, ⟨#[]⟩⟩ : O) := by
            rw [rd_at _ _ (by simp)]
            simp
          have w4 : wrap64 (0 + sumW (vals (L l[i].f3))) = colsT l[i].f3 := by unfold colsT at hcr ⊢; unfold wrap64; omega
          have hset : (out ++ [(⟨0, 0, 0, ⟨#[]⟩⟩ : O)]).set out.length ⟨0, colsT l[i].f3, 0, ⟨#[]⟩⟩ = out ++ [⟨0, colsT l[i].f3, 0, ⟨#[]⟩⟩] := by simp
          rw [hob, Bool.not_false, if_pos rfl, if_pos (by omega)]
          simp only [Option.bind_some]
          rw [if_pos hpos, hl2, w3, if_pos (by omega), if_pos (by omega), hr, w4, w1, Int.toNat_natCast, hset, ← hps]
          exact go k' (by omega) true ⟨fun _ => ⟨by rw [hps]; simp, by rw [hps, last_snoc]⟩, fun _ => rfl⟩
      · have hps : pstep out l[i] = out ++ [l[i]] := by unfold pstep; rw [if_neg d]
        rw [if_neg d, if_pos (by omega), w1]
        have : (⟨l[i].f0, l[i].f1, l[i].f2, l[i].f3⟩ : O) = l[i] := rfl
        rw [this, ← hps]
        exact go k (by omega) false ⟨fun h => (by cases h), fun h => (by rw [hps, last_snoc] at h; exact absurd h.2 d)⟩
    · simp only [emit_Skeleton.l0]
      rw [if_neg (by omega), List.drop_eq_nil_of_le (by omega)]
      rfl
theorem skelO_eq (l : List O) (hf : l.length ≤ 1000 ∧ ∀ o ∈ l, o.f3.size ≤ 1000) (hm : ∀ x ∈ l, mayB x = true) (k : Nat) (hk : 2000 * l.length + 10 ≤ k) : emit_Skeleton.f k l = some (skelO l) := by
  have := skel_prog l hf hm l.length k 0 [] false (by omega) hk (by omega) (by simp) (fun x hx => (by cases hx)) ⟨fun h => (by cases h), fun h => absurd rfl h.1⟩
  rw [List.drop_zero, pfold_eq l hm] at this
  exact this
theorem wid_r1 (vs : List Int) (hl : vs.length ≤ 1000000) (K : Nat) (x3 x4 : List O) (x5 : Int) (res : Option (List O)) : ∀ (n k i : Nat) (acc : Int), vs.length - i ≤ n → n + K + 120 ≤ k → i ≤ vs.length → acc = sumW (vs.take i) →
    (∀ k', K ≤ k' → (if sumW vs > 0 then (if x4.length < 3518437208883 then dactylref10_Skeleton.l0 k' x3 (x4 ++ [(⟨0, sumW vs, 0, (⟨#[]⟩ : ByteArray)⟩ : O)]) (wrap64 (x5 + 1)) else none) else dactylref10_Skeleton.l0 k' x3 x4 (wrap64 (x5 + 1))) = res) → dactylref10_Skeleton.l1 k x3 x4 x5 vs acc (i : Int) = res := by
  intro n
  induction n with
  | zero =>
    intro k i acc h0 hk hi ha hres
    obtain ⟨k, rfl⟩ : ∃ m, k = m + 1 := ⟨k - 1, by omega⟩
    have : acc = sumW vs := by rw [ha, List.take_of_length_le (by omega)]
    subst this
    simp only [dactylref10_Skeleton.l1]
    rw [if_neg (by omega)]
    exact hres k (by omega)
  | succ n ih =>
    intro k i acc h0 hk hi ha hres
    by_cases c : i < vs.length
    · obtain ⟨k, rfl⟩ : ∃ m, k = m + 1 := ⟨k - 1, by omega⟩
      have c1 : (i : Int) < (vs.length : Int) := by omega
      have c0 : 0 ≤ (i : Int) := by omega
      have hk10 : 100 ≤ k := by omega
      have h1_ : vs.length - (i + 1) ≤ n := by omega
      have h2_ : n + K + 120 ≤ k := by omega
      have h3_ : i + 1 ≤ vs.length := by omega
      have w2 : wrap64 ((i : Int) + 1) = ((i + 1 : Nat) : Int) := by unfold wrap64; omega
      simp only [dactylref10_Skeleton.l1]
      have hr : rd vs (i : Int) = vs[i] := by
        unfold rd
        rw [Int.toNat_natCast, List.getD_eq_getElem?_getD, List.getElem?_eq_getElem c]
        rfl
      have e : sumW (vs.take (i + 1)) = acc + widS vs[i] := by
        rw [List.take_succ_eq_append_getElem c, sumW_app, ha]
        simp [sumW]
      have hb := sumW_range (vs.take (i + 1))
      have hbl : (vs.take (i + 1)).length ≤ vs.length := List.length_take_le' _ _
      have w1 : wrap64 (acc + widS vs[i]) = sumW (vs.take (i + 1)) := by rw [← e]; exact w64_small _ hb.1 (by omega)
      rw [if_pos c1, if_pos c0, hr, ref_wid k _ hk10]
      simp only [Option.bind_some]
      rw [w1, w2]
      exact ih k (i + 1) _ h1_ h2_ h3_ rfl hres
    · obtain ⟨k, rfl⟩ : ∃ m, k = m + 1 := ⟨k - 1, by omega⟩
      have : acc = sumW vs := by rw [ha, List.take_of_length_le (by omega)]
      subst this
      simp only [dactylref10_Skeleton.l1]
      rw [if_neg (by omega)]
      exact hres k (by omega)
theorem skel_ref0 (l : List O) (hf : l.length ≤ 1000 ∧ ∀ o ∈ l, o.f3.size ≤ 1000000) (hm : ∀ x ∈ l, mayB x = true) : ∀ (n k i : Nat) (out : List O), l.length - i ≤ n → 1000300 * n + 1000300 ≤ k → i ≤ l.length → out.length ≤ i →
    dactylref10_Skeleton.l0 k l out (i : Int) = some (out ++ (l.drop i).map mute) := by
  intro n
  induction n with
  | zero =>
    intro k i out h0 hk hi _
    obtain ⟨k, rfl⟩ : ∃ m, k = m + 1 := ⟨k - 1, by omega⟩
    simp only [dactylref10_Skeleton.l0]
    rw [if_neg (by omega), List.drop_eq_nil_of_le (by omega)]
    simp
  | succ n ih =>
    intro k i out h0 hk hi hlen
    obtain ⟨k, rfl⟩ : ∃ m, k = m + 1 := ⟨k - 1, by omega⟩
    by_cases c : i < l.length
    · have hi1000 := hf.1
      have w1 : wrap64 ((i : Int) + 1) = ((i + 1 : Nat) : Int) := by unfold wrap64; omega
      have hmem : l[i] ∈ l := List.getElem_mem c
      have hsz := hf.2 _ hmem
      have hmay := hm _ hmem
      have hvl := vals_len (L l[i].f3)
      rw [L_len] at hvl
      simp only [dactylref10_Skeleton.l0]
      rw [if_pos (by omega), if_pos (by omega), rd_at l i c, List.drop_eq_getElem_cons c, List.map_cons]
      by_cases d : l[i].f0 = 0
      · have hp : plainT (L l[i].f3) = true := ((may_0 _ d).mp hmay).2.2
        have hpos : 0 < sumW (vals (L l[i].f3)) := colsT_pos _ hp
        rw [if_pos d, ref_dec k _ (by omega) (by omega)]
        simp only [Option.bind_some]
        have hv1 : (vals (L l[i].f3)).length ≤ 1000000 := Nat.le_trans hvl hsz
        obtain ⟨K, hK⟩ : ∃ K, K = 1000300 * n + 1000300 := ⟨_, rfl⟩
        have hv2 : (vals (L l[i].f3)).length + K + 120 ≤ k := by omega
        refine wid_r1 _ hv1 K l out _ _ (vals (L l[i].f3)).length k 0 0 (Nat.sub_le _ _) hv2 (Nat.zero_le _) rfl (fun k' hk' => ?_)
        rw [hK] at hk'
        rw [if_pos hpos, if_pos (by omega), w1, ih k' (i + 1) _ (by omega) hk' (by omega) (by rw [List.length_append, List.length_singleton]; omega), List.append_assoc]
        have : mute l[i] = ⟨0, sumW (vals (L l[i].f3)), 0, ⟨#[]⟩⟩ := by unfold mute colsT; rw [if_pos d]
        rw [this]
        rfl
      · have : (⟨l[i].f0, l[i].f1, l[i].f2, l[i].f3⟩ : O) = l[i] := rfl
        rw [if_neg d, if_pos (by omega), w1, this, ih k (i + 1) _ (by omega) (by omega) (by omega) (by rw [List.length_append, List.length_singleton]; omega), List.append_assoc]
        have : mute l[i] = l[i] := by unfold mute; rw [if_neg d]
        rw [this]
        rfl
    · simp only [dactylref10_Skeleton.l0]
      rw [if_neg (by omega), List.drop_eq_nil_of_le (by omega)]
      simp
theorem skelO_ref (l : List O) (hf : l.length ≤ 60 ∧ ∀ o ∈ l, o.f3.size ≤ 200) (hm : ∀ x ∈ l, mayB x = true) (k : Nat) (hk : 100000000 ≤ k) : dactylref10_Skeleton.f k l = some (skelO l) := by
  have hj : ∀ (m : List O) (out : List O) (B : Nat), (∀ x ∈ out, x.f3.size ≤ B) → (∀ x ∈ m, x.f3.size ≤ 200) → (m.foldl joinStep out).length ≤ out.length + m.length ∧ ∀ x ∈ m.foldl joinStep out, x.f3.size ≤ B + 200 * m.length := by
    intro m
    induction m with
    | nil => intro out B h1 _; exact ⟨Nat.le_refl _, h1⟩
    | cons o m ih =>
      intro out B h1 h2
      have h3 := step_len out o
      have h4 : ∀ x ∈ joinStep out o, x.f3.size ≤ B + 200 := by
        intro x hx
        have ho := h2 o List.mem_cons_self
        rcases List.eq_nil_or_concat out with e | ⟨o2, p, e⟩
        · subst e
          rw [step_nil, List.mem_singleton] at hx
          subst hx
          omega
        · rw [List.concat_eq_append] at e
          subst e
          rw [step_snoc] at hx
          have hp := h1 p (by simp)
          split at hx
          · rcases List.mem_append.mp hx with hx | hx
            · have := h1 x (List.mem_append_left _ hx); omega
            · rw [List.mem_singleton] at hx
              subst hx
              unfold merge
              simp only [ByteArray.size_append]
              omega
          · rcases List.mem_append.mp hx with hx | hx
            · have := h1 x hx; omega
            · rw [List.mem_singleton] at hx
              subst hx
              omega
      obtain ⟨h5, h6⟩ := ih (joinStep out o) (B + 200) h4 (fun x hx => h2 x (List.mem_cons_of_mem _ hx))
      rw [List.foldl_cons, List.length_cons]
      refine ⟨by omega, fun x hx => ?_⟩
      have := h6 x hx
      omega
  obtain ⟨h1, h2⟩ := hj l [] 0 (fun x hx => (by cases hx)) hf.2
  have h3 : (joinS l).length ≤ 60 := by
    have : (joinS l).length ≤ 0 + l.length := h1
    omega
  have h4 : ∀ x ∈ joinS l, x.f3.size ≤ 12000 := fun x hx => by have := h2 x hx; have := hf.1; omega
  have hfew : Few l := ⟨by have := hf.1; omega, fun o ho => by have := hf.2 o ho; omega⟩
  have hk2 : 1000300 * (joinS l).length + 1000300 ≤ k := by omega
  have h5 : ∀ x ∈ joinS l, x.f3.size ≤ 1000000 := fun x hx => Nat.le_trans (h4 x hx) (by decide)
  have := skel_ref0 (joinS l) ⟨Nat.le_trans h3 (by decide), h5⟩ (may_joined l hm) (joinS l).length k 0 [] (Nat.sub_le _ _) hk2 (Nat.zero_le _) (Nat.le_refl _)
  unfold dactylref10_Skeleton.f
  rw [ref_joined l hfew k (by have := hf.1; omega)]
  simp only [Option.bind_some]
  rw [List.drop_zero, List.nil_append] at this
  exact this
instance : DecidableEq O := fun a b => decidable_of_iff (a.f0 = b.f0 ∧ a.f1 = b.f1 ∧ a.f2 = b.f2 ∧ L a.f3 = L b.f3) ⟨fun h => by cases a; cases b; simp only at h; rw [h.1, h.2.1, h.2.2.1, L_inj h.2.2.2], fun h => by rw [h]; exact ⟨rfl, rfl, rfl, rfl⟩⟩
theorem diff_O (x y : O) (e : ¬ x = y) : (!(x.f0 == y.f0) || (!(x.f1 == y.f1) || (!(x.f2 == y.f2) || (!(x.f3.toList == y.f3.toList))))) = true := by
  cases h1 : (x.f0 == y.f0) with
  | false => rfl
  | true =>
    cases h2 : (x.f1 == y.f1) with
    | false => rfl
    | true =>
      cases h3 : (x.f2 == y.f2) with
      | false => rfl
      | true =>
        cases h4 : (x.f3.toList == y.f3.toList) with
        | false => rfl
        | true =>
          exact absurd (by
            have g1 := beq_iff_eq.mp h1
            have g2 := beq_iff_eq.mp h2
            have g3 := beq_iff_eq.mp h3
            have g4 := beq_iff_eq.mp h4
            rw [tl, tl] at g4
            cases x
            cases y
            simp only at g1 g2 g3 g4
            rw [g1, g2, g3, L_inj g4]) e
theorem sameO_ref (a b : List O) (ha : a.length ≤ 100000) (k : Nat) (hk : a.length < k) : dactylref10_Same.f k a b = some (decide (a = b)) := by
  unfold dactylref10_Same.f
  by_cases hl : a.length = b.length
  · rw [if_pos (by omega)]
    have key : ∀ (n k i : Nat), a.length - i ≤ n → n < k → i ≤ a.length → dactylref10_Same.l0 k a b (i : Int) = some (decide (a.drop i = b.drop i)) := by
      intro n
      induction n with
      | zero =>
        intro k i h0 hk hi
        obtain ⟨k, rfl⟩ : ∃ m, k = m + 1 := ⟨k - 1, by omega⟩
        simp only [dactylref10_Same.l0]
        rw [if_neg (by omega), List.drop_eq_nil_of_le (by omega), List.drop_eq_nil_of_le (by omega)]
        rfl
      | succ n ih =>
        intro k i h0 hk hi
        obtain ⟨k, rfl⟩ : ∃ m, k = m + 1 := ⟨k - 1, by omega⟩
        simp only [dactylref10_Same.l0]
        by_cases c : i < a.length
        · have cb : i < b.length := by omega
          have ea : a.drop i = a[i] :: a.drop (i + 1) := List.drop_eq_getElem_cons c
          have eb : b.drop i = b[i] :: b.drop (i + 1) := List.drop_eq_getElem_cons cb
          have w1 : wrap64 ((i : Int) + 1) = ((i + 1 : Nat) : Int) := by unfold wrap64; omega
          rw [if_pos (by omega), if_pos (by omega), if_pos (by omega), rd_at a i c, rd_at b i cb, w1, ih k (i + 1) (by omega) (by omega) (by omega), ea, eb]
          clear ea eb
          generalize a[i] = x
          generalize b[i] = y
          generalize a.drop (i + 1) = p
          generalize b.drop (i + 1) = q
          by_cases e : x = y
          · subst e
            simp
          · rw [if_pos (diff_O x y e)]
            simp [e]
        · rw [if_neg (by omega), List.drop_eq_nil_of_le (by omega), List.drop_eq_nil_of_le (by omega)]
          rfl
    have := key a.length k 0 (by omega) hk (by omega)
    simpa using this
  · rw [if_neg (by omega), decide_eq_false (fun h => hl (by rw [h]))]
theorem sameO_prog (a b : List O) (ha : a.length ≤ 100000) (k : Nat) (hk : a.length < k) : emit_Same.f k a b = some (decide (a = b)) := by
  have h : api_Out.f k a b = some (decide (a = b)) := by
    unfold api_Out.f
    by_cases hl : a.length = b.length
    · rw [if_pos (by omega)]
      have key : ∀ (n k i : Nat), a.length - i ≤ n → n < k → i ≤ a.length → api_Out.l0 k a b (a.length : Int) (i : Int) = some (decide (a.drop i = b.drop i)) := by
        intro n
        induction n with
        | zero =>
          intro k i h0 hk hi
          obtain ⟨k, rfl⟩ : ∃ m, k = m + 1 := ⟨k - 1, by omega⟩
          simp only [api_Out.l0]
          rw [if_neg (by omega), List.drop_eq_nil_of_le (by omega), List.drop_eq_nil_of_le (by omega)]
          rfl
        | succ n ih =>
          intro k i h0 hk hi
          obtain ⟨k, rfl⟩ : ∃ m, k = m + 1 := ⟨k - 1, by omega⟩
          simp only [api_Out.l0]
          by_cases c : i < a.length
          · have cb : i < b.length := by omega
            have ea : a.drop i = a[i] :: a.drop (i + 1) := List.drop_eq_getElem_cons c
            have eb : b.drop i = b[i] :: b.drop (i + 1) := List.drop_eq_getElem_cons cb
            have w1 : wrap64 ((i : Int) + 1) = ((i + 1 : Nat) : Int) := by unfold wrap64; omega
            rw [if_pos (by omega), if_pos (by omega), if_pos (by omega), if_pos (by omega), rd_at a i c, rd_at b i cb, w1, ih k (i + 1) (by omega) (by omega) (by omega), ea, eb]
            clear ea eb
            generalize a[i] = x
            generalize b[i] = y
            generalize a.drop (i + 1) = p
            generalize b.drop (i + 1) = q
            by_cases e : x = y
            · subst e
              simp
            · rw [if_pos (diff_O x y e)]
              simp [e]
          · rw [if_neg (by omega), List.drop_eq_nil_of_le (by omega), List.drop_eq_nil_of_le (by omega)]
            rfl
      have := key a.length k 0 (by omega) hk (by omega)
      simpa using this
    · rw [if_neg (by omega), decide_eq_false (fun h => hl (by rw [h]))]
  unfold emit_Same.f
  rw [h]
  rfl
end Go.Proofs.Ytddkmhkglmcihaa.Q
