/- Plain facts: the bytes of a value, as the program and as the reference tell them. -/
import Derived.Test.YtpkmoonfnbcphaaPAllx2
import Derived.Test.YtpkmoonfnbcphaaPAllx7
import Derived.Test.YtpkmoonfnbcphaaQBytes
import Derived.Test.YtpkmoonfnbcphaaQVals
import Derived.Test.YtpkmoonfnbcphaaQClass
import Derived.KernelRfl
set_option linter.unusedVariables false
set_option linter.unusedSimpArgs false
namespace Go.Proofs.Ytpkmoonfnbcphaa.Q
open Go.RowKit Go.Proofs.Ytpkmoonfnbcphaa.PAll Go.Proofs.YtpkmoonfnbcphaaW.PrintWords Go.Proofs.YtpkmoonfnbcphaaW.PrintLast Go.Proofs.YtpkmoonfnbcphaaW.PrintMore
def encI (v : Int) : List Int := if v < 128 then [v] else if v < 2048 then [192 + v / 64, 128 + v % 64] else if v < 65536 then [224 + v / 4096, 128 + v / 64 % 64, 128 + v % 64] else if v ≤ 1114111 then [240 + v / 262144, 128 + v / 4096 % 64, 128 + v / 64 % 64, 128 + v % 64] else [v - 1114112]
/-- A value's bytes. -/
def encS (v : Int) : List UInt8 := (encI v).map fun n => UInt8.ofNat n.toNat
theorem encI_len (v : Int) : 1 ≤ (encI v).length ∧ (encI v).length ≤ 4 := by
  unfold encI
  repeat' split
  all_goals (constructor <;> simp only [List.length_cons, List.length_nil] <;> omega)
theorem encS_len (v : Int) : 1 ≤ (encS v).length ∧ (encS v).length ≤ 4 := by
  unfold encS
  rw [List.length_map]
  exact encI_len v
theorem L_enc (v : Int) : L (strOfNums (encI v)) = encS v := rfl
theorem right_iff (v : Int) : rightB v = true ↔ ((0 ≤ v ∧ v < 55296) ∨ (57343 < v ∧ v ≤ 1114111) ∨ (1114240 ≤ v ∧ v ≤ 1114367)) := by
  unfold rightB
  exact decide_eq_true_iff
theorem w64_id (x : Int) (h1 : -4611686018427387904 ≤ x) (h2 : x ≤ 4611686018427387904) : wrap64 x = x := by unfold wrap64; omega
theorem ref_bytes (v : Int) (hv : rightB v = true) : dactylref02_Bytes.f v = some (strOfNums (encI v)) := by
  have hr := (right_iff v).mp hv
  have h0 : 0 ≤ v := by omega
  have h1 : v ≤ 1114367 := by omega
  unfold dactylref02_Bytes.f encI
  simp only [Int.tdiv_eq_ediv_of_nonneg h0, Int.tmod_eq_emod_of_nonneg h0]
  rw [w64_id (v / 64) (by omega) (by omega), w64_id (v / 4096) (by omega) (by omega), w64_id (v / 262144) (by omega) (by omega)]
  have d1 : 0 ≤ v / 64 := by omega
  have d2 : 0 ≤ v / 4096 := by omega
  simp only [Int.tmod_eq_emod_of_nonneg d1, Int.tmod_eq_emod_of_nonneg d2]
  by_cases c1 : v < 128
  · rw [if_pos c1, if_pos c1, show v % 256 = v by omega]
  rw [if_neg c1, if_neg c1]
  by_cases c2 : v < 2048
  · rw [if_pos c2, if_pos c2, w64_id (192 + v / 64) (by omega) (by omega), w64_id (128 + v % 64) (by omega) (by omega), show (192 + v / 64) % 256 = 192 + v / 64 by omega, show (128 + v % 64) % 256 = 128 + v % 64 by omega]
  rw [if_neg c2, if_neg c2]
  by_cases c3 : v < 65536
  · rw [if_pos c3, if_pos c3, w64_id (224 + v / 4096) (by omega) (by omega), w64_id (128 + v % 64) (by omega) (by omega), w64_id (128 + v / 64 % 64) (by omega) (by omega), show (224 + v / 4096) % 256 = 224 + v / 4096 by omega, show (128 + v % 64) % 256 = 128 + v % 64 by omega, show (128 + v / 64 % 64) % 256 = 128 + v / 64 % 64 by omega]
  rw [if_neg c3, if_neg c3]
  by_cases c4 : v ≤ 1114111
  · rw [if_pos c4, if_pos c4, w64_id (240 + v / 262144) (by omega) (by omega), w64_id (128 + v % 64) (by omega) (by omega), w64_id (128 + v / 64 % 64) (by omega) (by omega), w64_id (128 + v / 4096 % 64) (by omega) (by omega), show (240 + v / 262144) % 256 = 240 + v / 262144 by omega, show (128 + v % 64) % 256 = 128 + v % 64 by omega, show (128 + v / 64 % 64) % 256 = 128 + v / 64 % 64 by omega, show (128 + v / 4096 % 64) % 256 = 128 + v / 4096 % 64 by omega]
  rw [if_neg c4, if_neg c4, w64_id (v - 1114112) (by omega) (by omega), show (v - 1114112) % 256 = v - 1114112 by omega]
theorem or_all : (List.range 32).all (fun n => decide (Go.bits .or .u8 192 (n : Int) = 192 + (n : Int)) && (decide (16 ≤ n) || decide (Go.bits .or .u8 224 (n : Int) = 224 + (n : Int))) && (decide (8 ≤ n) || decide (Go.bits .or .u8 240 (n : Int) = 240 + (n : Int)))) = true := by decide +kernel
theorem or_fact (x : Int) (h0 : 0 ≤ x) (h1 : x < 32) : Go.bits .or .u8 192 x = 192 + x ∧ (x < 16 → Go.bits .or .u8 224 x = 224 + x) ∧ (x < 8 → Go.bits .or .u8 240 x = 240 + x) := by
  obtain ⟨m, rfl⟩ := Int.eq_ofNat_of_zero_le h0
  have h := List.all_eq_true.mp or_all m (List.mem_range.mpr (by omega))
  rw [Bool.and_eq_true, Bool.and_eq_true, Bool.or_eq_true, Bool.or_eq_true] at h
  refine ⟨of_decide_eq_true h.1.1, fun hx => ?_, fun hx => ?_⟩
  · rcases h.1.2 with g | g
    · have := of_decide_eq_true g; omega
    · exact of_decide_eq_true g
  · rcases h.2 with g | g
    · have := of_decide_eq_true g; omega
    · exact of_decide_eq_true g
theorem rune_eq (k : Nat) (v : Int) (hk : 2 ≤ k) (hv : (0 ≤ v ∧ v < 55296) ∨ (57343 < v ∧ v ≤ 1114111)) : utf8_AppendRune.f k [] v = some (encI v) := by
  obtain ⟨k, rfl⟩ : ∃ m, k = m + 1 := ⟨k - 1, by omega⟩
  have h0 : 0 ≤ v := by omega
  have h1 : v ≤ 1114111 := by omega
  have e : v % 4294967296 = v := by omega
  have len : ((([] : List Int).length) < 140737488355328) := by decide
  unfold utf8_AppendRune.f encI utf8_appendRuneNonASCII.f
  simp only [e, utf8_appendRuneNonASCII.j0, decide_eq_true_eq, Bool.false_eq_true, if_false, Option.bind_some, List.nil_append, List.length_nil, List.length_cons]
  by_cases c1 : v < 128
  · rw [if_pos (by omega), if_pos c1, if_pos (by omega), show v % 256 = v by omega]
  rw [if_neg (by omega), if_neg c1]
  by_cases c2 : v < 2048
  · rw [if_pos (by omega), if_pos c2, if_pos (by omega), show v / 64 % 256 = v / 64 by omega, (or_fact (v / 64) (by omega) (by omega)).1]
    rfl
  rw [if_neg (by omega), if_neg c2]
  by_cases c3 : v < 65536
  · have t : some [Go.bits .or .u8 224 (v / 4096 % 256), 128 + v / 64 % 64, 128 + v % 64] = some [224 + v / 4096, 128 + v / 64 % 64, 128 + v % 64] := by
      rw [show v / 4096 % 256 = v / 4096 by omega, (or_fact (v / 4096) (by omega) (by omega)).2.1 (by omega)]
    rw [if_pos c3]
    by_cases c4 : v < 55296
    · rw [if_pos c4, if_pos c4, if_pos (by omega)]
      simpa using t
    · rw [if_neg c4, if_pos (by omega), if_pos (by omega), if_pos (by omega)]
      simpa using t
  · rw [if_neg c3, if_pos h1, if_neg (by omega), if_pos (by omega), if_neg (by omega), if_pos (by omega), if_pos (by omega), if_pos (by omega), show v / 262144 % 256 = v / 262144 by omega, (or_fact (v / 262144) (by omega) (by omega)).2.2 (by omega)]
    rfl
theorem prog_enc (k : Nat) (v : Int) (hk : 5 ≤ k) (hv : rightB v = true) : utf_Encode.f k [v] = some (strOfNums (encI v)) := by
  obtain ⟨k, rfl⟩ : ∃ m, k = m + 2 := ⟨k - 2, by omega⟩
  have hr := (right_iff v).mp hv
  have r0 : rd [v] 0 = v := rfl
  unfold utf_Encode.f
  simp only [utf_Encode.l0, List.length_cons, List.length_nil, r0, prog_point, prog_right, hv, Option.bind_some, decide_eq_true_eq]
  rw [if_pos (by omega), if_pos (by omega), if_pos (by omega), show wrap64 (0 + 1) = 1 from by unfold wrap64; omega]
  by_cases c : (0 ≤ v ∧ v < 55296) ∨ (57343 < v ∧ v ≤ 1114111)
  · rw [if_pos c, show wrap32 v = v from by unfold wrap32; omega, rune_eq _ v (by omega) c]
    rfl
  · rw [if_neg c, if_pos trivial, if_pos (by decide), w64_id _ (by omega) (by omega), show (v - 1114112) % 256 = v - 1114112 by omega]
    unfold encI
    rw [if_neg (by omega), if_neg (by omega), if_neg (by omega), if_neg (by omega), if_neg (by omega)]
    rfl
end Go.Proofs.Ytpkmoonfnbcphaa.Q
