/- Plain facts: what is read from the bytes of pieces that may be are those pieces again. -/
import Derived.Test.YtddkmhkglmcihaaPAllx7
import Derived.Test.YtddkmhkglmcihaaPAllx8
import Derived.Test.YtddkmhkglmcihaaQEmit7
set_option linter.unusedVariables false
set_option linter.unusedSimpArgs false
namespace Go.Proofs.Ytddkmhkglmcihaa.Q
open Go.RowKit Go.Proofs.Ytddkmhkglmcihaa.PAll Go.Proofs.YtddkmhkglmcihaaW.PrintWords Go.Proofs.YtddkmhkglmcihaaW.PrintLast Go.Proofs.YtddkmhkglmcihaaW.PrintMore
theorem read_pos (n m : Int) (h1 : 1 ≤ n) (h2 : n ≤ 1000) (h3 : 1 ≤ m) (h4 : m ≤ 1000) (u : ByteArray) (hu : L u = (dec n ++ 59 :: dec m) ++ [72]) (k : Nat) (hk : 40 ≤ k) : emit_read.f k u = some (1, n, m, ⟨#[]⟩) := by
  obtain ⟨s, _, hl, z1, z2, z3, _, hs⟩ := dec_fact n h1 h2
  obtain ⟨t, _, hl2, z4, z5, _, _, ht⟩ := dec_fact m h3 h4
  have e1 : (L s).length = s.size := rfl
  have e2 : (L t).length = t.size := rfl
  have hus : (L u).length = u.size := rfl
  rw [hl] at e1
  rw [hl2] at e2
  have hsz := hus
  rw [hu] at hsz
  simp only [List.length_append, List.length_cons, List.length_nil] at hsz
  have w1 : wrap64 ((u.size : Int) - 1) = ((u.size - 1 : Nat) : Int) := by unfold wrap64; omega
  have hlast : bt u ((u.size - 1 : Nat) : Int) = 72 := by
    rw [bt_g, hu, Int.toNat_natCast, g_app_right _ _ _ (by simp only [List.length_append, List.length_cons]; omega)]
    have : u.size - 1 - (dec n ++ 59 :: dec m).length = 0 := by simp only [List.length_append, List.length_cons]; omega
    rw [this]
    rfl
  have hx : L (u.extract 0 (u.size - 1)) = dec n ++ 59 :: dec m := by
    rw [L_ext, hu, List.drop_zero, Nat.sub_zero]
    exact List.take_left' (by simp only [List.length_append, List.length_cons]; omega)
  obtain ⟨a, b, h5, h6, h7⟩ := cut_at (u.extract 0 (u.size - 1)) (dec n) (dec m) (by rw [ByteArray.size_extract]; omega) hx (fun h => by have := (z3 59 h).2; revert this; decide)
  have ha : a = s := L_inj (h6.trans hl.symm)
  have hb : b = t := L_inj (h7.trans hl2.symm)
  subst ha
  subst hb
  unfold emit_read.f
  rw [w1, if_pos (by omega), if_pos (by omega), if_pos (by omega), hlast]
  simp only [Int.toNat_natCast]
  rw [h5]
  simp only [Option.bind_some]
  rw [hs k (by omega), ht k (by omega)]
  rfl
theorem one_ctl (o : O) (h : mayB o = true) (h0 : o.f0 ≠ 0) (s : ByteArray) (r : List UInt8) (hs : s.size ≤ 1000000) (hl : L s = bytesS o ++ r) (k : Nat) (hk : s.size + 100 ≤ k) : emit_one.f k s = some (o.f0, o.f1, o.f2, ⟨#[]⟩) := by
  rcases may_cases o h with ⟨c, _⟩ | ⟨_, h⟩
  · exact absurd c h0
  have first : ∀ (x : UInt8), L s = x :: r → bt s 0 = (x.toNat : Int) ∧ 0 < (s.size : Int) := by
    intro x hx
    refine ⟨by rw [bt_g, hx]; rfl, ?_⟩
    have e1 : (L s).length = s.size := rfl
    rw [hx, List.length_cons] at e1
    omega
  unfold bytesS at hl
  rcases h with ⟨c, h1, h2, h3, h4⟩ | ⟨c, h2, h3, h4⟩ | ⟨c, h2, h3, h4⟩ | ⟨h1, h2, c⟩
  · rw [if_neg (by omega), if_pos c] at hl
    rw [c]
    obtain ⟨_, _, _, _, _, z3, _, _⟩ := dec_fact o.f1 h1 h2
    obtain ⟨_, _, _, _, _, z4, _, _⟩ := dec_fact o.f2 h3 h4
    refine one_esc s (dec o.f1 ++ 59 :: dec o.f2) 72 r hs (by rw [hl]; simp) ?_ (by unfold scanC; decide) _ 40 (fun u hu k hk => read_pos o.f1 o.f2 h1 h2 h3 h4 u hu k hk) k (by omega)
    intro y hy
    unfold scanC
    rcases List.mem_append.mp hy with hy | hy
    · have := z3 y hy
      omega
    · rcases List.mem_cons.mp hy with hy | hy
      · rw [hy]
        decide
      · have := z4 y hy
        omega
  · rw [if_neg (by omega), if_neg (by omega), if_neg (by omega), if_neg (by omega), if_pos c] at hl
    rw [c, h2]
    refine looks8 (fun n => L s = [27, 91] ++ L (emit_looks.t n.toNat) ++ r → emit_one.f k s = some (4, n, 0, ⟨#[]⟩)) ?_ o.f1 h3 h4 hl
    refine ⟨?_, ?_, ?_, ?_, ?_, ?_, ?_, ?_⟩ <;> intro hl
    · exact one_esc s (L (emit_looks.t 0)).dropLast 109 r hs hl (by unfold scanC; decide) (by unfold scanC; decide) _ 40 (fun u hu => read_at u _ hu _ (by kernel_rfl)) k (by omega)
    · exact one_esc s (L (emit_looks.t 1)).dropLast 109 r hs hl (by unfold scanC; decide) (by unfold scanC; decide) _ 40 (fun u hu => read_at u _ hu _ (by kernel_rfl)) k (by omega)
    · exact one_esc s (L (emit_looks.t 2)).dropLast 109 r hs hl (by unfold scanC; decide) (by unfold scanC; decide) _ 40 (fun u hu => read_at u _ hu _ (by kernel_rfl)) k (by omega)
    · exact one_esc s (L (emit_looks.t 3)).dropLast 109 r hs hl (by unfold scanC; decide) (by unfold scanC; decide) _ 40 (fun u hu => read_at u _ hu _ (by kernel_rfl)) k (by omega)
    · exact one_esc s (L (emit_looks.t 4)).dropLast 109 r hs hl (by unfold scanC; decide) (by unfold scanC; decide) _ 40 (fun u hu => read_at u _ hu _ (by kernel_rfl)) k (by omega)
    · exact one_esc s (L (emit_looks.t 5)).dropLast 109 r hs hl (by unfold scanC; decide) (by unfold scanC; decide) _ 40 (fun u hu => read_at u _ hu _ (by kernel_rfl)) k (by omega)
    · exact one_esc s (L (emit_looks.t 6)).dropLast 109 r hs hl (by unfold scanC; decide) (by unfold scanC; decide) _ 40 (fun u hu => read_at u _ hu _ (by kernel_rfl)) k (by omega)
    · exact one_esc s (L (emit_looks.t 7)).dropLast 109 r hs hl (by unfold scanC; decide) (by unfold scanC; decide) _ 40 (fun u hu => read_at u _ hu _ (by kernel_rfl)) k (by omega)
  · rw [if_neg (by omega), if_neg (by omega), if_neg (by omega), if_neg (by omega), if_neg (by omega), if_pos c] at hl
    rw [c, h2]
    have hn : o.f1 = 0 ∨ o.f1 = 1 := by omega
    rcases hn with e | e
    · rw [e] at hl ⊢
      exact one_esc s [63, 50, 48, 48, 52] 108 r hs hl (by unfold scanC; decide) (by unfold scanC; decide) _ 40 (fun u hu => read_at u _ hu _ (by kernel_rfl)) k (by omega)
    · rw [e] at hl ⊢
      exact one_esc s [63, 50, 48, 48, 52] 104 r hs hl (by unfold scanC; decide) (by unfold scanC; decide) _ 40 (fun u hu => read_at u _ hu _ (by kernel_rfl)) k (by omega)
  · rw [h1, h2]
    rcases c with c | c | c | c | c <;> rw [c] at hl ⊢
    · exact one_esc s [50] 74 r hs hl (by unfold scanC; decide) (by unfold scanC; decide) _ 40 (fun u hu => read_at u _ hu _ (by kernel_rfl)) k (by omega)
    · exact one_esc s [] 75 r hs hl (by unfold scanC; decide) (by unfold scanC; decide) _ 40 (fun u hu => read_at u _ hu _ (by kernel_rfl)) k (by omega)
    · obtain ⟨hb, hp⟩ := first 7 hl
      unfold emit_one.f
      rw [if_pos hp, hb]
      rfl
    · obtain ⟨hb, hp⟩ := first 13 hl
      unfold emit_one.f
      rw [if_pos hp, hb]
      rfl
    · obtain ⟨hb, hp⟩ := first 10 hl
      unfold emit_one.f
      rw [if_pos hp, hb]
      rfl
theorem bytes_first (o : O) (h : mayB o = true) (h0 : o.f0 ≠ 0) (r : List UInt8) : g (bytesS o ++ r) 0 < 32 := by
  rcases may_cases o h with ⟨c, _⟩ | ⟨_, h⟩
  · exact absurd c h0
  unfold bytesS
  rcases h with ⟨c, _⟩ | ⟨c, _⟩ | ⟨c, _⟩ | ⟨_, _, c⟩
  · rw [if_neg (by omega), if_pos c]
    show (27 : Int) < 32
    decide
  · rw [if_neg (by omega), if_neg (by omega), if_neg (by omega), if_neg (by omega), if_pos c]
    show (27 : Int) < 32
    decide
  · rw [if_neg (by omega), if_neg (by omega), if_neg (by omega), if_neg (by omega), if_neg (by omega), if_pos c]
    split <;> (show (27 : Int) < 32; decide)
  · rcases c with c | c | c | c | c <;> rw [c]
    · show (27 : Int) < 32
      decide
    · show (27 : Int) < 32
      decide
    · show (7 : Int) < 32
      decide
    · show (13 : Int) < 32
      decide
    · show (10 : Int) < 32
      decide
theorem norm_tail (o : O) (l : List O) (h : Norm (o :: l)) : Norm l := fun a b p q e => h (o :: a) b p q (by rw [e]; rfl)
theorem parse_back : ∀ (l : List O) (k : Nat) (s : ByteArray) (out : List O), l.length + 1000 + s.size ≤ k → s.size ≤ 20000 → out.length + l.length ≤ 1000000 → (∀ x ∈ l, mayB x = true) → Norm l → L s = textS l → emit_Parse.l0 k s out = some (out ++ l, 0) := by
  intro l
  induction l with
  | nil =>
    intro k s out hk _ ho _ _ hl
    obtain ⟨k, rfl⟩ : ∃ m, k = m + 1 := ⟨k - 1, by omega⟩
    simp only [emit_Parse.l0]
    rw [if_pos (by rw [tl, hl]; rfl), List.append_nil]
  | cons o l ih =>
    intro k s out hk hsz ho hm hn hl
    obtain ⟨k, rfl⟩ : ∃ m, k = m + 1 := ⟨k - 1, by omega⟩
    have hmo := hm o (List.mem_cons_self)
    rw [textS_cons] at hl
    have hb0 := bytes_some o hmo
    have hls : (L s).length = s.size := rfl
    have hne : L s ≠ [] := by
      rw [hl]
      simp [hb0]
    simp only [List.length_cons] at hk ho
    have hone : emit_one.f k s = some (o.f0, o.f1, o.f2, o.f3) := by
      by_cases c : o.f0 = 0
      · have h3 := (may_0 o c).mp hmo
        have hr : textS l = [] ∨ g (textS l) 0 < 32 := by
          match l, hm, hn with
          | [], _, _ => exact .inl rfl
          | q :: l, hm, hn =>
            right
            rw [textS_cons]
            exact bytes_first q (hm q (by simp)) (fun hq => hn [] l o q rfl ⟨c, hq⟩) _
        obtain ⟨b, h4, h5⟩ := one_text s (L o.f3) (textS l) (by omega) (by rw [hl, bytes_0 o c]) h3.2.2 hr k (by omega)
        rw [h4, c, h3.1, h3.2.1, L_inj h5]
      · rw [one_ctl o hmo c s (textS l) (by omega) hl k (by omega)]
        rcases may_cases o hmo with ⟨c2, _⟩ | ⟨h3, _⟩
        · exact absurd c2 c
        · have : o.f3 = ⟨#[]⟩ := L_inj h3
          rw [this]
    have eta : emit_Parse.o (o.f0, o.f1, o.f2, o.f3) = o := rfl
    have hbl : (bytesS o).length ≤ s.size := by
      rw [← hls, hl, List.length_append]
      omega
    have hf3 : o.f3.size ≤ 20000 := by
      by_cases c : o.f0 = 0
      · rw [bytes_0 o c] at hbl
        have e1 : (L o.f3).length = o.f3.size := rfl
        omega
      · rcases may_cases o hmo with ⟨c2, _⟩ | ⟨h3, _⟩
        · exact absurd c2 c
        · have e1 : (L o.f3).length = o.f3.size := rfl
          rw [h3, List.length_nil] at e1
          omega
    obtain ⟨b, e2, h4, h5, _⟩ := text_prog [o] ⟨by simp, fun q hq => by have hq2 : q = o := (by simpa using hq); rw [hq2]; exact hf3⟩ k (by simp; omega)
    obtain ⟨h7, h8⟩ := h5 (by simpa using hmo)
    have hb : L b = bytesS o := by rw [h8]; simp [textS]
    have hpre : (L b).isPrefixOf (L s) = true := by
      rw [List.isPrefixOf_iff_prefix, hb, hl]
      exact List.prefix_append _ _
    have hbs : b.size = (bytesS o).length := by rw [← hb]; rfl
    have hbp : 0 < (bytesS o).length := List.length_pos_iff.mpr hb0
    have hcut : L (s.extract b.size s.size) = textS l := by
      rw [L_ext, hl, hbs, List.drop_left]
      exact List.take_of_length_le (by rw [← hls, hl, List.length_append]; omega)
    have hcs : (s.extract b.size s.size).size ≤ s.size - 1 := by
      rw [ByteArray.size_extract]
      omega
    simp only [emit_Parse.l0, tl]
    rw [if_neg hne, hone]
    simp only [Option.bind_some]
    rw [eta, h4]
    simp only [Option.bind_some]
    rw [cutPrefix_eq, if_pos hpre]
    simp only [Option.bind_some]
    rw [if_pos h7, if_pos trivial, if_pos (by omega), ih k _ (out ++ [o]) (by omega) (by omega) (by rw [List.length_append, List.length_singleton]; omega) (fun x hx => hm x (List.mem_cons_of_mem _ hx)) (norm_tail o l hn) hcut]
    simp
end Go.Proofs.Ytddkmhkglmcihaa.Q
