/- Plain facts on texts as lists of bytes. -/
import Derived.Test.YtpkmoonfnbcphaaPAllx1
import Derived.Laws.Strings
set_option linter.unusedVariables false
set_option linter.unusedSimpArgs false
namespace Go.Proofs.Ytpkmoonfnbcphaa.Q
open Go.RowKit Go.Proofs.Ytpkmoonfnbcphaa.PAll Go.Proofs.YtpkmoonfnbcphaaW.PrintWords Go.Proofs.YtpkmoonfnbcphaaW.PrintLast Go.Proofs.YtpkmoonfnbcphaaW.PrintMore
abbrev L (s : ByteArray) : List UInt8 := s.data.toList
theorem tl (s : ByteArray) : s.toList = L s := ByteArray.toList_eq s
theorem L_len (s : ByteArray) : (L s).length = s.size := rfl
theorem L_ext (s : ByteArray) (i j : Nat) : L (s.extract i j) = ((L s).drop i).take (j - i) := by
  unfold L
  rw [ByteArray.data_extract, Array.toList_extract, List.extract_eq_take_drop]
theorem L_app (a b : ByteArray) : L (a ++ b) = L a ++ L b := by
  unfold L
  rw [ByteArray.data_append, Array.toList_append]
theorem L_inj {a b : ByteArray} (h : L a = L b) : a = b := by
  cases a with
  | mk x => cases b with
    | mk y =>
      cases x with
      | mk x => cases y with
        | mk y => simp only [L] at h; subst h; rfl
/-- The byte at a place, as a number; 0 past the end. -/
def g (l : List UInt8) (i : Nat) : Int := ((l.getD i 0).toNat : Int)
theorem bt_g (s : ByteArray) (i : Int) : bt s i = g (L s) i.toNat := by
  unfold bt g
  split
  · rename_i h
    rw [List.getD_eq_getElem?_getD, List.getElem?_eq_getElem (show i.toNat < (L s).length from h)]
    rfl
  · rename_i h
    rw [List.getD_eq_getElem?_getD, List.getElem?_eq_none (show (L s).length ≤ i.toNat from by have : s.size = (L s).length := rfl; omega)]
    rfl
theorem g_range (l : List UInt8) (i : Nat) : 0 ≤ g l i ∧ g l i ≤ 255 := by
  unfold g
  have := (l.getD i 0).toNat_lt
  omega
theorem g_drop (l : List UInt8) (p i : Nat) : g (l.drop p) i = g l (p + i) := by
  unfold g
  rw [List.getD_eq_getElem?_getD, List.getElem?_drop, List.getD_eq_getElem?_getD]
theorem g_app_left (a b : List UInt8) (i : Nat) (h : i < a.length) : g (a ++ b) i = g a i := by
  unfold g
  rw [List.getD_eq_getElem?_getD, List.getElem?_append_left h, List.getD_eq_getElem?_getD]
theorem g_app_right (a b : List UInt8) (i : Nat) (h : a.length ≤ i) : g (a ++ b) i = g b (i - a.length) := by
  unfold g
  rw [List.getD_eq_getElem?_getD, List.getElem?_append_right h, List.getD_eq_getElem?_getD]
theorem g_zero (l : List UInt8) (i : Nat) (h : l.length ≤ i) : g l i = 0 := by
  unfold g
  rw [List.getD_eq_getElem?_getD, List.getElem?_eq_none h]
  rfl
theorem g_cons (x : UInt8) (l : List UInt8) : g (x :: l) 0 = (x.toNat : Int) := rfl
theorem g_succ (x : UInt8) (l : List UInt8) (i : Nat) : g (x :: l) (i + 1) = g l i := rfl
theorem g_inj {x y : UInt8} (h : (x.toNat : Int) = (y.toNat : Int)) : x = y := UInt8.toNat_inj.mp (by omega)
theorem get!_g (s : ByteArray) (q : Nat) : ((s.get! q).toNat : Int) = g (L s) q := by
  unfold g
  have e : s.get! q = (L s).getD q 0 := by
    show s.data[q]! = _
    rw [List.getD_eq_getElem?_getD, getElem!_def, ← Array.getElem?_toList]
    cases s.data.toList[q]? <;> rfl
  rw [e]
theorem hasPrefix_eq (a b : ByteArray) : strings_HasPrefix.f a b = some ((L b).isPrefixOf (L a)) := by
  unfold strings_HasPrefix.f stringslite_HasPrefix.f
  by_cases h : b.size ≤ a.size
  · rw [if_pos (by omega), if_pos (by omega), if_pos (by omega)]
    simp only [Option.bind_some, tl, L_ext, Int.toNat_natCast, List.drop_zero, Nat.sub_zero]
    congr 1
    rw [Bool.eq_iff_iff]
    rw [beq_iff_eq, List.isPrefixOf_iff_prefix, List.prefix_iff_eq_take]
    exact ⟨fun h => h.symm, fun h => h.symm⟩
  · rw [if_neg (by omega)]
    simp only [Option.bind_some]
    congr 1
    symm
    rw [Bool.eq_false_iff]
    intro hp
    have := (List.isPrefixOf_iff_prefix.mp hp).length_le
    have : (L b).length = b.size := rfl
    have : (L a).length = a.size := rfl
    omega
end Go.Proofs.Ytpkmoonfnbcphaa.Q
