/- The plain law of SpoofStrips. -/
import Derived.Test.YtpkmoonfnbcphaaPAllx9
import Derived.Test.YtpkmoonfnbcphaaQSp7
set_option linter.unusedVariables false
set_option linter.unusedSimpArgs false
namespace Go.Proofs.Ytpkmoonfnbcphaa.Pure
open Go.RowKit Go.Proofs.Ytpkmoonfnbcphaa.PAll Go.Proofs.YtpkmoonfnbcphaaW.PrintWords Go.Proofs.YtpkmoonfnbcphaaW.PrintLast Go.Proofs.YtpkmoonfnbcphaaW.PrintMore Go.Proofs.Ytpkmoonfnbcphaa.Q
theorem strips_l0 (vs : List Int) (hv : vs.length ≤ 100000) (hsafe : ∀ x ∈ vs, ofS x ≤ 3) (x0 a b c : ByteArray) (K : Nat) (hK : 200 ≤ K) (hend : ∀ k, K ≤ k → dactyllaw44_SpoofStrips.l0 (k + 1) x0 a b c vs (vs.length : Int) = some true) : ∀ (n k i : Nat), vs.length - i ≤ n → n + K + 1 ≤ k → i ≤ vs.length → dactyllaw44_SpoofStrips.l0 k x0 a b c vs (i : Int) = some true := by
  intro n
  induction n with
  | zero =>
    intro k i h0 hk hi
    obtain ⟨k, rfl⟩ : ∃ m, k = m + 1 := ⟨k - 1, by omega⟩
    have : i = vs.length := by omega
    subst this
    exact hend k (by omega)
  | succ n ih =>
    intro k i h0 hk hi
    by_cases cl : i < vs.length
    · obtain ⟨k, rfl⟩ : ∃ m, k = m + 1 := ⟨k - 1, by omega⟩
      have hs := hsafe vs[i] (List.getElem_mem cl)
      simp only [dactyllaw44_SpoofStrips.l0]
      rw [if_pos (by omega), if_pos (by omega), rd_int vs i cl, ref_of k _ (by omega)]
      simp only [Option.bind_some]
      rw [if_neg (by omega), w64_succ i (by omega), ih k (i + 1) (by omega) (by omega) (by omega)]
    · exact ih k i (by omega) (by omega) hi
theorem strips_all (s : ByteArray) (hs : s.size ≤ 300) : dactyllaw44_SpoofStrips.f 30000 s = some true := by
  obtain ⟨K, hK⟩ : ∃ K, K = 30000 := ⟨_, rfl⟩
  rw [← hK]
  have pa := strip_prog
  obtain ⟨a, a1, a2⟩ := strip_prog K (by omega) s (by omega)
  obtain ⟨b, b1, b2⟩ := tell_prog K (by omega) s (by omega)
  obtain ⟨c, c1, c2⟩ := fold_prog K (by omega) s (by omega)
  have sa : a.size ≤ 16 * s.size := by
    have := catG_vals_len stripS stripS_len (L s)
    rw [← a2, L_len, L_len] at this
    exact this
  have sb : b.size ≤ 16 * s.size := by
    have := catG_vals_len txtS (fun v => by have := txtS_len v; omega) (L s)
    rw [← b2, L_len, L_len] at this
    exact this
  have sc : c.size ≤ 16 * s.size := by
    have := catG_vals_len foldS foldS_len (L s)
    rw [← c2, L_len, L_len] at this
    exact this
  obtain ⟨us, u1, u2⟩ := strip_list (vals (L s)) (vals_right (L s))
  obtain ⟨ts, t1, t2⟩ := tell_list (vals (L s)) (vals_right (L s))
  have hab : vals (L (a ++ b)) = us ++ ts := by
    rw [L_app, a2, b2, u1, t1, ← catG_app]
    exact vals_cat _ (fun v hv => by
      rcases List.mem_append.mp hv with h | h
      · exact (u2 v h).1
      · exact (t2 v h).1)
  have hsafe : ∀ x ∈ us ++ ts, ofS x ≤ 3 := fun v hv => by
    rcases List.mem_append.mp hv with h | h
    · exact (u2 v h).2
    · exact (t2 v h).2
  have hlen : (us ++ ts).length ≤ 32 * s.size := by
    rw [← hab]
    have := vals_len (L (a ++ b))
    rw [L_len, ByteArray.size_append] at this
    omega
  unfold dactyllaw44_SpoofStrips.f
  rw [if_neg (by omega), a1, b1, c1]
  simp only [Option.bind_some]
  rw [if_pos (by omega), ref_dec K (a ++ b) (by rw [ByteArray.size_append]; omega) (by rw [ByteArray.size_append]; omega), hab]
  simp only [Option.bind_some]
  refine strips_l0 (us ++ ts) (by omega) hsafe s a b c 10000 (by decide) ?_ (us ++ ts).length K 0 (by omega) (by omega) (Nat.zero_le _)
  intro k hk
  obtain ⟨a', a3, a4⟩ := strip_ref k s (by omega) (by omega)
  obtain ⟨b', b3, b4⟩ := tell_ref k s (by omega) (by omega)
  obtain ⟨c', c3, c4⟩ := fold_ref k s (by omega) (by omega)
  obtain ⟨d, d1, d2⟩ := strip_prog k (by omega) a (by omega)
  obtain ⟨e, e1, e2⟩ := strip_prog k (by omega) b (by omega)
  obtain ⟨f, f1, f2⟩ := fold_prog k (by omega) a (by omega)
  have sf : f.size ≤ 16 * a.size := by
    have := catG_vals_len foldS foldS_len (L a)
    rw [← f2, L_len, L_len] at this
    exact this
  obtain ⟨g, g1, g2⟩ := fold_prog k (by omega) f (by omega)
  obtain ⟨h, h1, h2⟩ := fold_prog k (by omega) c (by omega)
  have ed : L d = L a := by
    rw [d2, a2, u1]
    exact strip_safe us u2
  have ee : L e = L b := by
    rw [e2, b2, t1]
    exact strip_safe ts t2
  have eg : L g = L f := by
    rw [g2, f2]
    exact fold_fold (L a)
  have eh : L h = L c := by
    rw [h2, c2]
    exact fold_fold (L s)
  simp only [dactyllaw44_SpoofStrips.l0]
  rw [if_neg (by omega), awake44 k (by omega)]
  simp only [Option.bind_some, if_true, tl]
  rw [a3]
  simp only [Option.bind_some]
  rw [if_pos (by rw [a2, a4]), b3]
  simp only [Option.bind_some]
  rw [if_pos (by rw [b2, b4]), c3]
  simp only [Option.bind_some]
  rw [if_pos (by rw [c2, c4]), d1]
  simp only [Option.bind_some]
  rw [if_pos ed, e1]
  simp only [Option.bind_some]
  rw [if_pos ee, f1]
  simp only [Option.bind_some]
  rw [g1]
  simp only [Option.bind_some]
  rw [if_pos eg.symm, h1]
  simp only [Option.bind_some]
  rw [eh]
  congr 1
  exact beq_self_eq_true _
theorem SpoofStrips : dactyllaw44_SpoofStrips.Pure := by
  intro s _
  by_cases c : s.size > 300
  · refine ⟨200, ?_⟩
    unfold dactyllaw44_SpoofStrips.f
    rw [if_pos (by omega), awake44 200 (by decide)]
    rfl
  · exact ⟨30000, strips_all s (by omega)⟩
end Go.Proofs.Ytpkmoonfnbcphaa.Pure
