-- Printed for this claim by the session's own program (wip/tool/hprint.py) over the kit's print; some functions' texts are the session's own.
import Derived.Test.YtpkmoonfnbcphaaPAllx0
import Derived.Test.YtpkmoonfnbcphaaPAllx1
import Derived.Test.YtpkmoonfnbcphaaPAllx2
namespace Go.Proofs.Ytpkmoonfnbcphaa.PAll
open Go.RowKit Go.Proofs.YtpkmoonfnbcphaaW.PrintWords Go.Proofs.YtpkmoonfnbcphaaW.PrintLast Go.Proofs.YtpkmoonfnbcphaaW.PrintMore
attribute [local go_sem] max2_int min2_int max_two min_two max_three min_three max_four min_four   -- for this text's walks alone
set_option linter.unusedVariables false
set_option linter.unusedSimpArgs false

/-! ### num_laid: function 63 -/
def num_laid.d (n : Int) : ByteArray := (⟨#[48, 49, 50, 51, 52, 53, 54, 55, 56, 57, 65, 66, 67, 68, 69, 70]⟩ : ByteArray).extract n.toNat (n.toNat + 1)
def num_laid.l (b least : Int) : Nat → Int → ByteArray → Option ByteArray
 | 0, _, _ => none
 | k + 1, u, s => if 0 < u then num_laid.l b least k (u / b) (num_laid.d (u % b) ++ s) else if (s.size : Int) < least then num_laid.l b least k (u / b) (num_laid.d (u % b) ++ s) else some s
theorem num_laid.d_size (n : Int) : (num_laid.d n).size ≤ 1 := by
 unfold num_laid.d
 rw [ByteArray.size_extract]
 omega
theorem num_laid.laid (b least : Int) (w : World) :
  Calls Try.prog 63 #[.int .u64 b, .int .i64 least] w fun e w' => e = .returned (.func (.func 81) #[] #[.pointer (some ⟨w.heap.size + 1, 0, none⟩), .pointer (some ⟨w.heap.size, 0, none⟩)]) ∧ w' = (w.alloc (.cells #[.int .u64 b] 75)).alloc (.cells #[.int .i64 least] 3) := by
 go_enter Try.func63, Try.ntmps63
 go_wp2
 go_ret
 exact ⟨rfl, rfl⟩
set_option maxHeartbeats 8000000 in
set_option maxRecDepth 100000 in
theorem num_laid.go10 (least : Int) (p q : Nat) (u : Int) (r : ByteArray) (w : World) (hu0 : 0 ≤ u) (hu1 : u ≤ 18446744073709551615) (hb : w.cell? ⟨q, 0, none⟩ = some (.int .u64 10)) (hl : w.cell? ⟨p, 0, none⟩ = some (.int .i64 least)) (h : num_laid.l 10 least 64 u (⟨#[]⟩ : ByteArray) = some r) :
  Calls Try.prog 81 #[.int .u64 u, .pointer (some ⟨p, 0, none⟩), .pointer (some ⟨q, 0, none⟩)] w fun e w' => e = .returned (.string r) ∧ Drawn0 w w' := by
 have HA := Aside0.mk h
 have HU1 := Aside0.mk hu1
 clear h hu1
 go_enter Try.func81, Try.ntmps81
 go_wp2
 go_loopg [0, 5] 64 (fun kq v0 v5 w' => ∃ (x : Int) (s : ByteArray), v0 = .int .u64 x ∧ v5 = .string s ∧ 0 ≤ x ∧ Aside0 (x ≤ 18446744073709551615) ∧ s.size + kq ≤ 64 ∧ Aside0 (num_laid.l 10 least kq x s = some r) ∧ Drawn0 w w')
 case atStart => exact ⟨u, (⟨#[]⟩ : ByteArray), rfl, rfl, hu0, HU1, by decide, HA, Drawn0.refl _⟩
 case round =>
  clear HA HU1
  obtain ⟨x, s, rfl, rfl, hx0, HX1, hs, HA, ⟨nd, rfl⟩⟩ := hrel
  cases gk with
  | zero => exact absurd HA.out (by simp [num_laid.l])
  | succ kq =>
  have hm0 : 0 ≤ x % 10 := by omega
  have hm1 : x % 10 < 10 := by omega
  have hd0 : 0 ≤ x / 10 := by omega
  have HD1 : Aside0 (x / 10 ≤ 18446744073709551615) := ⟨by have := HX1.out; omega⟩
  have hsz := num_laid.d_size (x % 10)
  have h := HA.out
  clear HA
  simp only [num_laid.l] at h
  by_cases c : 0 < x
  ·rw [if_pos c] at h
   have HA := Aside0.mk h
   clear h
   have cb : decide (0 < x) = true := decide_eq_true c
   go_wp2
   obtain ⟨m, hm⟩ : ∃ m : Nat, x.tmod 10 = (m : Int) := ⟨(x % 10).toNat, by rw [Int.tmod_eq_emod_of_nonneg hx0]; omega⟩
   have hm' : Aside0 (x % 10 = (m : Int)) := ⟨by rw [← Int.tmod_eq_emod_of_nonneg hx0]; exact hm⟩
   have hmlt : m < 10 := by have := hm'.out; omega
   have hwr : IntKind.u64.wrap ((m : Int) + 1) = (m : Int) + 1 := IntWalk.u64_in _ (by omega)
   have h1 : (0 : Int) ≤ (m : Int) + 1 := by omega
   have h2 : (0 : Int) ≤ (m : Int) := by omega
   have h3 : ((m : Int) + 1).toNat = m + 1 := by omega
   have h4 : (m : Int) ≤ (m : Int) + 1 := by omega
   have h5 : (m : Int) + 1 ≤ 16 := by omega
   have h6 : m ≤ m + 1 := by omega
   have h7 : m + 1 ≤ 16 := by omega
   clear hm0 hm1
   go_quiet (fail)
   clear hm hwr h1 h2 h3 h4 h5 h6 h7
   go_wp2
   go_roundg kq
   case measure => omega
   case rel =>
    have e : num_laid.d (x % 10) = (⟨#[48, 49, 50, 51, 52, 53, 54, 55, 56, 57, 65, 66, 67, 68, 69, 70]⟩ : ByteArray).extract m (m + 1) := by
     unfold num_laid.d
     rw [hm'.out, Int.toNat_natCast]
    rw [e] at hsz
    have hq : IntKind.u64.wrap (x.tdiv 10) = x / 10 := by rw [Int.tdiv_eq_ediv_of_nonneg hx0]; exact IntWalk.u64_in _ ⟨hd0, HD1.out⟩
    refine ⟨x / 10, (⟨#[48, 49, 50, 51, 52, 53, 54, 55, 56, 57, 65, 66, 67, 68, 69, 70]⟩ : ByteArray).extract m (m + 1) ++ s, (by first | rfl | rw [hq]), rfl, hd0, HD1, by rw [ByteArray.size_append]; omega, ⟨by rw [← e]; exact HA.out⟩, ?_⟩
    repeat (first | exact Drawn0.refl _ | apply Drawn0.step)
  ·rw [if_neg c] at h
   have cb : decide (0 < x) = false := decide_eq_false c
   by_cases c2 : (s.size : Int) < least
   ·rw [if_pos c2] at h
    have HA := Aside0.mk h
    clear h
    have c2b : decide ((s.size : Int) < least) = true := decide_eq_true c2
    go_wp2
    obtain ⟨m, hm⟩ : ∃ m : Nat, x.tmod 10 = (m : Int) := ⟨(x % 10).toNat, by rw [Int.tmod_eq_emod_of_nonneg hx0]; omega⟩
    have hm' : Aside0 (x % 10 = (m : Int)) := ⟨by rw [← Int.tmod_eq_emod_of_nonneg hx0]; exact hm⟩
    have hmlt : m < 10 := by have := hm'.out; omega
    have hwr : IntKind.u64.wrap ((m : Int) + 1) = (m : Int) + 1 := IntWalk.u64_in _ (by omega)
    have h1 : (0 : Int) ≤ (m : Int) + 1 := by omega
    have h2 : (0 : Int) ≤ (m : Int) := by omega
    have h3 : ((m : Int) + 1).toNat = m + 1 := by omega
    have h4 : (m : Int) ≤ (m : Int) + 1 := by omega
    have h5 : (m : Int) + 1 ≤ 16 := by omega
    have h6 : m ≤ m + 1 := by omega
    have h7 : m + 1 ≤ 16 := by omega
    clear hm0 hm1
    go_quiet (fail)
    clear hm hwr h1 h2 h3 h4 h5 h6 h7
    go_wp2
    go_roundg kq
    case measure => omega
    case rel =>
     have e : num_laid.d (x % 10) = (⟨#[48, 49, 50, 51, 52, 53, 54, 55, 56, 57, 65, 66, 67, 68, 69, 70]⟩ : ByteArray).extract m (m + 1) := by
      unfold num_laid.d
      rw [hm'.out, Int.toNat_natCast]
     rw [e] at hsz
     have hq : IntKind.u64.wrap (x.tdiv 10) = x / 10 := by rw [Int.tdiv_eq_ediv_of_nonneg hx0]; exact IntWalk.u64_in _ ⟨hd0, HD1.out⟩
     refine ⟨x / 10, (⟨#[48, 49, 50, 51, 52, 53, 54, 55, 56, 57, 65, 66, 67, 68, 69, 70]⟩ : ByteArray).extract m (m + 1) ++ s, (by first | rfl | rw [hq]), rfl, hd0, HD1, by rw [ByteArray.size_append]; omega, ⟨by rw [← e]; exact HA.out⟩, ?_⟩
     repeat (first | exact Drawn0.refl _ | apply Drawn0.step)
   ·rw [if_neg c2] at h
    obtain rfl := Option.some.inj h
    clear h
    have c2b : decide ((s.size : Int) < least) = false := decide_eq_false c2
    go_wp2
    go_ret
    exact ⟨rfl, by repeat (first | exact Drawn0.refl _ | apply Drawn0.step)⟩
set_option maxHeartbeats 8000000 in
set_option maxRecDepth 100000 in
theorem num_laid.go16 (least : Int) (p q : Nat) (u : Int) (r : ByteArray) (w : World) (hu0 : 0 ≤ u) (hu1 : u ≤ 18446744073709551615) (hb : w.cell? ⟨q, 0, none⟩ = some (.int .u64 16)) (hl : w.cell? ⟨p, 0, none⟩ = some (.int .i64 least)) (h : num_laid.l 16 least 64 u (⟨#[]⟩ : ByteArray) = some r) :
  Calls Try.prog 81 #[.int .u64 u, .pointer (some ⟨p, 0, none⟩), .pointer (some ⟨q, 0, none⟩)] w fun e w' => e = .returned (.string r) ∧ Drawn0 w w' := by
 have HA := Aside0.mk h
 have HU1 := Aside0.mk hu1
 clear h hu1
 go_enter Try.func81, Try.ntmps81
 go_wp2
 go_loopg [0, 5] 64 (fun kq v0 v5 w' => ∃ (x : Int) (s : ByteArray), v0 = .int .u64 x ∧ v5 = .string s ∧ 0 ≤ x ∧ Aside0 (x ≤ 18446744073709551615) ∧ s.size + kq ≤ 64 ∧ Aside0 (num_laid.l 16 least kq x s = some r) ∧ Drawn0 w w')
 case atStart => exact ⟨u, (⟨#[]⟩ : ByteArray), rfl, rfl, hu0, HU1, by decide, HA, Drawn0.refl _⟩
 case round =>
  clear HA HU1
  obtain ⟨x, s, rfl, rfl, hx0, HX1, hs, HA, ⟨nd, rfl⟩⟩ := hrel
  cases gk with
  | zero => exact absurd HA.out (by simp [num_laid.l])
  | succ kq =>
  have hm0 : 0 ≤ x % 16 := by omega
  have hm1 : x % 16 < 16 := by omega
  have hd0 : 0 ≤ x / 16 := by omega
  have HD1 : Aside0 (x / 16 ≤ 18446744073709551615) := ⟨by have := HX1.out; omega⟩
  have hsz := num_laid.d_size (x % 16)
  have h := HA.out
  clear HA
  simp only [num_laid.l] at h
  by_cases c : 0 < x
  ·rw [if_pos c] at h
   have HA := Aside0.mk h
   clear h
   have cb : decide (0 < x) = true := decide_eq_true c
   go_wp2
   obtain ⟨m, hm⟩ : ∃ m : Nat, x.tmod 16 = (m : Int) := ⟨(x % 16).toNat, by rw [Int.tmod_eq_emod_of_nonneg hx0]; omega⟩
   have hm' : Aside0 (x % 16 = (m : Int)) := ⟨by rw [← Int.tmod_eq_emod_of_nonneg hx0]; exact hm⟩
   have hmlt : m < 16 := by have := hm'.out; omega
   have hwr : IntKind.u64.wrap ((m : Int) + 1) = (m : Int) + 1 := IntWalk.u64_in _ (by omega)
   have h1 : (0 : Int) ≤ (m : Int) + 1 := by omega
   have h2 : (0 : Int) ≤ (m : Int) := by omega
   have h3 : ((m : Int) + 1).toNat = m + 1 := by omega
   have h4 : (m : Int) ≤ (m : Int) + 1 := by omega
   have h5 : (m : Int) + 1 ≤ 16 := by omega
   have h6 : m ≤ m + 1 := by omega
   have h7 : m + 1 ≤ 16 := by omega
   clear hm0 hm1
   go_quiet (fail)
   clear hm hwr h1 h2 h3 h4 h5 h6 h7
   go_wp2
   go_roundg kq
   case measure => omega
   case rel =>
    have e : num_laid.d (x % 16) = (⟨#[48, 49, 50, 51, 52, 53, 54, 55, 56, 57, 65, 66, 67, 68, 69, 70]⟩ : ByteArray).extract m (m + 1) := by
     unfold num_laid.d
     rw [hm'.out, Int.toNat_natCast]
    rw [e] at hsz
    have hq : IntKind.u64.wrap (x.tdiv 16) = x / 16 := by rw [Int.tdiv_eq_ediv_of_nonneg hx0]; exact IntWalk.u64_in _ ⟨hd0, HD1.out⟩
    refine ⟨x / 16, (⟨#[48, 49, 50, 51, 52, 53, 54, 55, 56, 57, 65, 66, 67, 68, 69, 70]⟩ : ByteArray).extract m (m + 1) ++ s, (by first | rfl | rw [hq]), rfl, hd0, HD1, by rw [ByteArray.size_append]; omega, ⟨by rw [← e]; exact HA.out⟩, ?_⟩
    repeat (first | exact Drawn0.refl _ | apply Drawn0.step)
  ·rw [if_neg c] at h
   have cb : decide (0 < x) = false := decide_eq_false c
   by_cases c2 : (s.size : Int) < least
   ·rw [if_pos c2] at h
    have HA := Aside0.mk h
    clear h
    have c2b : decide ((s.size : Int) < least) = true := decide_eq_true c2
    go_wp2
    obtain ⟨m, hm⟩ : ∃ m : Nat, x.tmod 16 = (m : Int) := ⟨(x % 16).toNat, by rw [Int.tmod_eq_emod_of_nonneg hx0]; omega⟩
    have hm' : Aside0 (x % 16 = (m : Int)) := ⟨by rw [← Int.tmod_eq_emod_of_nonneg hx0]; exact hm⟩
    have hmlt : m < 16 := by have := hm'.out; omega
    have hwr : IntKind.u64.wrap ((m : Int) + 1) = (m : Int) + 1 := IntWalk.u64_in _ (by omega)
    have h1 : (0 : Int) ≤ (m : Int) + 1 := by omega
    have h2 : (0 : Int) ≤ (m : Int) := by omega
    have h3 : ((m : Int) + 1).toNat = m + 1 := by omega
    have h4 : (m : Int) ≤ (m : Int) + 1 := by omega
    have h5 : (m : Int) + 1 ≤ 16 := by omega
    have h6 : m ≤ m + 1 := by omega
    have h7 : m + 1 ≤ 16 := by omega
    clear hm0 hm1
    go_quiet (fail)
    clear hm hwr h1 h2 h3 h4 h5 h6 h7
    go_wp2
    go_roundg kq
    case measure => omega
    case rel =>
     have e : num_laid.d (x % 16) = (⟨#[48, 49, 50, 51, 52, 53, 54, 55, 56, 57, 65, 66, 67, 68, 69, 70]⟩ : ByteArray).extract m (m + 1) := by
      unfold num_laid.d
      rw [hm'.out, Int.toNat_natCast]
     rw [e] at hsz
     have hq : IntKind.u64.wrap (x.tdiv 16) = x / 16 := by rw [Int.tdiv_eq_ediv_of_nonneg hx0]; exact IntWalk.u64_in _ ⟨hd0, HD1.out⟩
     refine ⟨x / 16, (⟨#[48, 49, 50, 51, 52, 53, 54, 55, 56, 57, 65, 66, 67, 68, 69, 70]⟩ : ByteArray).extract m (m + 1) ++ s, (by first | rfl | rw [hq]), rfl, hd0, HD1, by rw [ByteArray.size_append]; omega, ⟨by rw [← e]; exact HA.out⟩, ?_⟩
     repeat (first | exact Drawn0.refl _ | apply Drawn0.step)
   ·rw [if_neg c2] at h
    obtain rfl := Option.some.inj h
    clear h
    have c2b : decide ((s.size : Int) < least) = false := decide_eq_false c2
    go_wp2
    go_ret
    exact ⟨rfl, by repeat (first | exact Drawn0.refl _ | apply Drawn0.step)⟩

/-! ### num_Hex: function 48 -/
def num_Hex.w (a1 : Int) : Int := if a1 < 1 then 1 else if 16 < a1 then 16 else a1
def num_Hex.f (a0 a1 : Int) : Option ByteArray := if a0 < 0 then some (⟨#[]⟩ : ByteArray) else (if a0 ≤ 9223372036854775807 then num_laid.l 16 (num_Hex.w a1) 64 a0 (⟨#[]⟩ : ByteArray) else none)
theorem num_Hex.pos (n : Int) (h0 : 0 ≤ n) (h1 : n ≤ 9223372036854775807) : IntKind.u64.wrap n = n := by
 rw [IntKind.wrap_u64]
 omega
theorem num_Hex.eq1 (a : Int) (h : a < 1) : num_Hex.w a = 1 := by
 unfold num_Hex.w
 rw [if_pos h]
theorem num_Hex.eq2 (a : Int) (h : 1 ≤ a) (h2 : (if a < 1 then 1 else a) ≤ 16) : num_Hex.w a = a := by
 rw [if_neg (by omega)] at h2
 unfold num_Hex.w
 rw [if_neg (by omega), if_neg (by omega)]
theorem num_Hex.eq3 (a : Int) (h : 1 ≤ a) (h2 : 16 < if a < 1 then 1 else a) : num_Hex.w a = 16 := by
 rw [if_neg (by omega)] at h2
 unfold num_Hex.w
 rw [if_neg (by omega), if_pos (by omega)]
set_option maxHeartbeats 8000000 in
set_option maxRecDepth 100000 in
theorem num_Hex.calls (a0 a1 : Int) (r : ByteArray) (w : World) (h : num_Hex.f a0 a1 = some r) :
  Calls Try.prog 48 #[.int .i64 a0, .int .i64 a1] w fun e w' => e = .returned (.string r) ∧ Below w.heap.size w w' := by
 unfold num_Hex.f at h
 by_cases c : a0 < 0
 ·rw [if_pos c] at h
  obtain rfl := Option.some.inj h
  have cb : decide (a0 < 0) = true := decide_eq_true c
  clear h
  go_enter Try.func48, Try.ntmps48
  go_wp2
  go_ret
  exact ⟨rfl, Below.refl _ _⟩
 ·rw [if_neg c] at h
  by_cases c1 : a0 ≤ 9223372036854775807
  ·rw [if_pos c1] at h
   have hn := Aside0.mk (num_Hex.pos a0 (by omega) c1)
   have cb : decide (a0 < 0) = false := decide_eq_false c
   have hG := Aside0.mk (fun W h1 h2 => num_laid.go16 (num_Hex.w a1) (w.heap.size + 1) w.heap.size a0 r W (by omega) (by omega) h1 h2 h)
   clear c1 c h
   go_enter Try.func48, Try.ntmps48
   go_wp2_with fail
   all_goals
    rename_i hh
    first
     | rw [num_Hex.eq2 a1 h hh] at hG
     | rw [num_Hex.eq3 a1 h hh] at hG
     | rw [num_Hex.eq1 a1 h] at hG
    refine (num_laid.laid 16 _ _).mono ?_
    rintro e w1 ⟨rfl, rfl⟩
    go_wp2_with fail
    rw [hn.out]
    refine (hG.out _ (by simp) (by simp)).mono ?_
    rintro e w2 ⟨rfl, ⟨nd, rfl⟩⟩
    clear hG hn
    go_wp2_with fail
    go_ret
    exact ⟨rfl, pw_below_drewN (((Below.refl _ w).alloc (Nat.le_refl _) _).alloc (by simp) _) _⟩
  ·rw [if_neg c1] at h; cases h

/-! ### show_Text: function 25 -/
def show_Text.j0 : Nat → Int → Int → Bool → Option (ByteArray)
 | 0, _, _, _ => none
 | k + 1, x0, x4, x7 => if x7 = true then ((utf_Encode.f k (([x0] : List Int))).bind fun t180 => (some t180)) else (if x4 = 4 then ((utf_Encode.f k (([wrap64 (x0 + 64)] : List Int))).bind fun t184 => (if 1 + t184.size ≤ 9223372036854775807 then (some ((⟨#[94]⟩ : ByteArray) ++ t184)) else (none))) else (if x4 = 5 then (some (⟨#[94, 63]⟩ : ByteArray)) else (if x4 = 12 then ((num_Hex.f (wrap64 (x0 - 1114112)) 2).bind fun t185 => (if 2 + t185.size ≤ 9223372036854775807 then (some ((⟨#[92, 120]⟩ : ByteArray) ++ t185)) else (none))) else ((num_Hex.f x0 4).bind fun t186 => (if 3 + t186.size ≤ 9223372036854775807 then (if ((⟨#[60, 85, 43]⟩ : ByteArray) ++ t186).size + 1 ≤ 9223372036854775807 then (some (((⟨#[60, 85, 43]⟩ : ByteArray) ++ t186) ++ (⟨#[62]⟩ : ByteArray))) else (none)) else (none))))))
def show_Text.f (k : Nat) (a0 : Int) : Option (ByteArray) := (class_Of.f k a0).bind fun t176 => (if t176 = 0 then (some (⟨#[]⟩ : ByteArray)) else (if t176 = 1 then (show_Text.j0 k a0 t176 (t176 == 1)) else (if t176 = 2 then (show_Text.j0 k a0 t176 (t176 == 2)) else (show_Text.j0 k a0 t176 (t176 == 3)))))
theorem show_Text.mono_l : ∀ k, (∀ y0 y1 y2, LeO (show_Text.j0 k y0 y1 y2) (show_Text.j0 (k + 1) y0 y1 y2))
 | 0 => fun _ _ _ r h => by simp [show_Text.j0] at h
 | k + 1 => by
  have ih0 := show_Text.mono_l k
  ·intro y0 y1 y2
   unfold show_Text.j0
   repeat' first
   | (with_reducible exact ih0 _ _ _)
   | (with_reducible exact class_Of.mono _ _)
   | (with_reducible exact utf_Encode.mono _ _)
   | (with_reducible exact LeO.refl _)
   | (with_reducible exact LeO.none _)
   | (with_reducible refine LeO.ite ?_ ?_)
   | (with_reducible refine LeO.bind ?_ (fun _ => ?_))
   | exact ih0 _ _ _
   | exact class_Of.mono _ _
   | exact utf_Encode.mono _ _
   | exact LeO.none _
   | refine LeO.ite ?_ ?_
   | refine LeO.bind ?_ (fun _ => ?_)
theorem show_Text.mono : ∀ a0 k, LeO (show_Text.f k a0) (show_Text.f (k + 1) a0) := by
 intro a0 k
 have ih0 := show_Text.mono_l k
 unfold show_Text.f
 repeat' first
   | (with_reducible exact ih0 _ _ _)
   | (with_reducible exact class_Of.mono _ _)
   | (with_reducible exact utf_Encode.mono _ _)
   | (with_reducible exact LeO.refl _)
   | (with_reducible exact LeO.none _)
   | (with_reducible refine LeO.ite ?_ ?_)
   | (with_reducible refine LeO.bind ?_ (fun _ => ?_))
   | exact ih0 _ _ _
   | exact class_Of.mono _ _
   | exact utf_Encode.mono _ _
   | exact LeO.none _
   | refine LeO.ite ?_ ?_
   | refine LeO.bind ?_ (fun _ => ?_)
set_option maxHeartbeats 8000000 in
set_option maxRecDepth 100000 in
theorem show_Text.calls (k : Nat) (a0 : Int) (r : ByteArray) (w : World) (h : show_Text.f k a0 = some r) :
  Calls Try.prog 25 #[.int .i64 a0] w fun e w' => e = .returned (.string r) ∧ Below w.heap.size w w' := by
 have HB := Aside0.mk (Below.refl w.heap.size w)
 have H : ((class_Of.f k a0).bind fun t176 => (if t176 = 0 then (some (⟨#[]⟩ : ByteArray)) else (if t176 = 1 then (show_Text.j0 k a0 t176 (t176 == 1)) else (if t176 = 2 then (show_Text.j0 k a0 t176 (t176 == 2)) else (show_Text.j0 k a0 t176 (t176 == 3)))))) = some r := h
 clear h
 replace H := Option.bind_eq_some_iff.mp H
 obtain ⟨t176, A20, H⟩ := H
 replace H : (if t176 = 0 then (some (⟨#[]⟩ : ByteArray)) else (if t176 = 1 then (show_Text.j0 k a0 t176 (t176 == 1)) else (if t176 = 2 then (show_Text.j0 k a0 t176 (t176 == 2)) else (show_Text.j0 k a0 t176 (t176 == 3))))) = some r := H
 have A2 := Aside0.mk A20
 clear A20
 by_cases c3 : t176 = 0
 ·rw [if_pos c3] at H
  have c3b0 : (t176 == 0) = true := beq_iff_eq.mpr c3
  have c3b1 : (t176 != 0) = false := bne_eq_false_iff_eq.mpr c3
  clear c3
  obtain rfl := Option.some.inj H
  go_enter Try.func25, Try.ntmps25
  go_wp2_with (first | ((with_reducible refine gate_callee (f := 44) rfl ?_); refine goesL_ (some 4) rfl rfl Try.func44 (by kernel_rfl) rfl #[.int .i64 a0] rfl zl ?_; (with_reducible refine (class_Of.calls k a0 t176 _ A2.out).mono ?_); rintro e w4 ⟨rfl, hb⟩; refine ⟨_, rfl, ?_⟩; have n0_ := Aside0.mk (below_step zb hb); clear HB; have HB := n0_; clear n0_; (try clear hb); (try clear hb2); (try clear hk); (try clear hi)))
  go_ret
  exact ⟨zr, zb⟩
 ·rw [if_neg c3] at H
  have c3b0 : (t176 == 0) = false := beq_eq_false_iff_ne.mpr c3
  have c3b1 : (t176 != 0) = true := bne_iff_ne.mpr c3
  have HC5 := Aside0.mk H
  clear H
  go_enter Try.func25, Try.ntmps25
  go_upto_if 7 with (first | ((with_reducible refine gate_callee (f := 44) rfl ?_); refine goesL_ (some 4) rfl rfl Try.func44 (by kernel_rfl) rfl #[.int .i64 a0] rfl zl ?_; (with_reducible refine (class_Of.calls k a0 t176 _ A2.out).mono ?_); rintro e w6 ⟨rfl, hb⟩; refine ⟨_, rfl, ?_⟩; have n0_ := Aside0.mk (below_step zb hb); clear HB; have HB := n0_; clear n0_; (try clear hb); (try clear hb2); (try clear hk); (try clear hi)))
  (try simp only [Act.put, List.setIfInBounds_toArray, List.set_cons_zero, List.set_cons_succ])
  go_cut [7] (fun v7 wc => ∃ (kq : Nat) (x7_4 : Bool), v7 = .bool x7_4 ∧ Aside0 (show_Text.j0 kq a0 t176 x7_4 = some r) ∧ Aside0 (kq ≤ k) ∧ Aside0 (Below w.heap.size w wc))
  case first =>
   have H := HC5.out
   clear HC5
   by_cases c7 : t176 = 1
   ·rw [if_pos c7] at H
    have c7b0 : (t176 == 1) = true := beq_iff_eq.mpr c7
    have c7b1 : (t176 != 1) = false := bne_eq_false_iff_eq.mpr c7
    clear c7
    (first | rw [c7b0] | (simp only [i64_w, i32_w]; rw [c7b0]) | skip)
    have H' := Aside0.mk H
    clear H
    go_wp2
    go_meet
    case rel => exact ⟨_, ((t176 == 1)), (by first | rfl | (simp; done) | (simp [*]; done)), H', ⟨by first | omega | exact Nat.le_refl _⟩, ⟨by repeat (first | (with_reducible first | exact HB.out | apply below_alloc | apply pw_below_drewN | apply below_drew1) | exact HB.out)⟩⟩
   ·rw [if_neg c7] at H
    have c7b0 : (t176 == 1) = false := beq_eq_false_iff_ne.mpr c7
    have c7b1 : (t176 != 1) = true := bne_iff_ne.mpr c7
    (first | rw [c7b0] | (simp only [i64_w, i32_w]; rw [c7b0]) | skip)
    by_cases c8 : t176 = 2
    ·rw [if_pos c8] at H
     have c8b0 : (t176 == 2) = true := beq_iff_eq.mpr c8
     have c8b1 : (t176 != 2) = false := bne_eq_false_iff_eq.mpr c8
     clear c8
     have H' := Aside0.mk H
     clear H
     go_wp2
     go_meet
     case rel => exact ⟨_, ((t176 == 2)), (by first | rfl | (simp; done) | (simp [*]; done)), H', ⟨by first | omega | exact Nat.le_refl _⟩, ⟨by repeat (first | (with_reducible first | exact HB.out | apply below_alloc | apply pw_below_drewN | apply below_drew1) | exact HB.out)⟩⟩
    ·rw [if_neg c8] at H
     have c8b0 : (t176 == 2) = false := beq_eq_false_iff_ne.mpr c8
     have c8b1 : (t176 != 2) = true := bne_iff_ne.mpr c8
     have H' := Aside0.mk H
     clear H
     go_wp2
     go_meet
     case rel => exact ⟨_, ((t176 == 3)), (by first | rfl | (simp; done) | (simp [*]; done)), H', ⟨by first | omega | exact Nat.le_refl _⟩, ⟨by repeat (first | (with_reducible first | exact HB.out | apply below_alloc | apply pw_below_drewN | apply below_drew1) | exact HB.out)⟩⟩
  case rest =>
   clear HC5
   try clear c2
   try clear p2
   try clear c3
   try clear c3b0
   try clear c3b1
   try clear c4
   try clear c7
   try clear c7b0
   try clear c7b1
   try clear c8
   try clear c8b0
   try clear c8b1
   obtain ⟨kq, x7_4, rfl, HA, HJ4, HB⟩ := hcut
   cases kq with
   | zero => exact absurd HA.out (by simp [show_Text.j0])
   | succ kj4 =>
    have H := HA.out
    clear HA
    simp only [show_Text.j0] at H
    by_cases c9 : x7_4 = true
    ·subst c9
     have H1 : ((utf_Encode.f kj4 (([a0] : List Int))).bind fun t180 => (some t180)) = some r := by rw [if_pos rfl] at H; exact H
     clear H
     have H := H1
     clear H1
     obtain ⟨y177, hy177⟩ : ∃ y_ : List Int, y_ = (([a0] : List Int)) := ⟨_, rfl⟩
     replace H : ((utf_Encode.f kj4 y177).bind fun t180 => (some t180)) = some r := by first | (rw [hy177]; with_reducible exact H) | (have H2_ := (Option.bind_some _ _).symm.trans H; rw [hy177]; with_reducible exact H2_) | (have H2_ := (Option.bind_some _ _).symm.trans H; with_reducible exact H2_) | with_reducible exact H | (rw [hy177]; exact H) | exact H
     have Ny177 := Aside0.mk hy177
     clear hy177
     replace H := Option.bind_eq_some_iff.mp H
     obtain ⟨t180, A100, H⟩ := H
     replace H : (some t180) = some r := H
     have A10 := Aside0.mk A100
     clear A100
     obtain rfl := Option.some.inj H
     go_wp2_with (first | ((with_reducible refine gate_dst (N := 12) rfl ?_); refine Kd.R_lit (Kd.int .i64) _ 3 ?hg (N := 12) ?hd (xs := ([a0] : List Int)) (inner := [.int .i64 a0]) (ok := fun _ => True) (okp := fun _ => True) ?hr ?hp (fun _ hk => hk) trivial (Below.refl _ _) (Nat.le_refl _) (by simp) ?_; (case hd => rfl); (case hg => rfl); (case hr => first | (go_simp; done) | (go_simp; rfl)); (case hp => exact (Reps.one (show Kd.M (Kd.int .i64) _ _ _ a0 [.int .i64 a0] from rfl) (Reps.none _ _))); intro v178 w11 ho12 hb hg_ hnew_; clear hg_ hnew_; (first | rw [← Ny177.out] at ho12 | (simp only [Int.reduceToNat] at ho12; rw [← Ny177.out] at ho12)); have n0_ := Aside0.mk (Kd.R_lower ho12 (below_size zb)); have n1_ := Aside0.mk (below_step zb hb); clear HB; have HO179 := n0_; have HB := n1_; clear n0_ n1_; clear hb ho12; obtain ⟨Ao13, co13, eo13⟩ := Kd.R_slice HO179.out; subst eo13) | ((with_reducible refine gate_callee (f := 24) rfl ?_); refine goesL_ (some 13) rfl rfl Try.func24 (by kernel_rfl) rfl #[.slice Ao13 y177.length co13] rfl zl ?_; (with_reducible refine (utf_Encode.calls kj4 _ _ y177 t180 _ ?side1 ?side2 A10.out).mono ?_); (case side1 => repeat (first | exact (Kd.R_reads' HO179.out).2.2 | (with_reducible refine Kd.C_alloc ?_ _) | (with_reducible refine Kd.C_drewN ?_ _) | (with_reducible refine Kd.C_drew ?_))); (case side2 => exact (Kd.R_reads' HO179.out).2.1); rintro e w14 ⟨rfl, hb⟩; refine ⟨_, rfl, ?_⟩; have n0_ := Aside0.mk (Kd.R_below (zk HO179.out) hb); have n1_ := Aside0.mk (below_step zb hb); clear HO179; clear HB; have HO179 := n0_; have HB := n1_; clear n0_ n1_; (try clear hb); (try clear hb2); (try clear hk); (try clear hi)))
     go_ret
     exact ⟨zr, zb⟩
    ·replace c9 := Bool.eq_false_iff.mpr c9
     subst c9
     have H1 : (if t176 = 4 then ((utf_Encode.f kj4 (([wrap64 (a0 + 64)] : List Int))).bind fun t184 => (if 1 + t184.size ≤ 9223372036854775807 then (some ((⟨#[94]⟩ : ByteArray) ++ t184)) else (none))) else (if t176 = 5 then (some (⟨#[94, 63]⟩ : ByteArray)) else (if t176 = 12 then ((num_Hex.f (wrap64 (a0 - 1114112)) 2).bind fun t185 => (if 2 + t185.size ≤ 9223372036854775807 then (some ((⟨#[92, 120]⟩ : ByteArray) ++ t185)) else (none))) else ((num_Hex.f a0 4).bind fun t186 => (if 3 + t186.size ≤ 9223372036854775807 then (if ((⟨#[60, 85, 43]⟩ : ByteArray) ++ t186).size + 1 ≤ 9223372036854775807 then (some (((⟨#[60, 85, 43]⟩ : ByteArray) ++ t186) ++ (⟨#[62]⟩ : ByteArray))) else (none)) else (none)))))) = some r := by rw [if_neg (show ¬ (false = true) by decide)] at H; exact H
     clear H
     have H := H1
     clear H1
     by_cases c15 : t176 = 4
     ·rw [if_pos c15] at H
      have c15b0 : (t176 == 4) = true := beq_iff_eq.mpr c15
      have c15b1 : (t176 != 4) = false := bne_eq_false_iff_eq.mpr c15
      clear c15
      obtain ⟨y181, hy181⟩ : ∃ y_ : List Int, y_ = (([wrap64 (a0 + 64)] : List Int)) := ⟨_, rfl⟩
      replace H : ((utf_Encode.f kj4 y181).bind fun t184 => (if 1 + t184.size ≤ 9223372036854775807 then (some ((⟨#[94]⟩ : ByteArray) ++ t184)) else (none))) = some r := by first | (rw [hy181]; with_reducible exact H) | (have H2_ := (Option.bind_some _ _).symm.trans H; rw [hy181]; with_reducible exact H2_) | (have H2_ := (Option.bind_some _ _).symm.trans H; with_reducible exact H2_) | with_reducible exact H | (rw [hy181]; exact H) | exact H
      have Ny181 := Aside0.mk hy181
      clear hy181
      replace H := Option.bind_eq_some_iff.mp H
      obtain ⟨t184, A160, H⟩ := H
      replace H : (if 1 + t184.size ≤ 9223372036854775807 then (some ((⟨#[94]⟩ : ByteArray) ++ t184)) else (none)) = some r := H
      have A16 := Aside0.mk A160
      clear A160
      by_cases c17 : 1 + t184.size ≤ 9223372036854775807
      ·rw [if_pos c17] at H
       have c17b0 := eq_true c17
       have c17b1 : decide (1 + t184.size ≤ 9223372036854775807) = true := decide_eq_true c17
       try have c17b2 : (9223372036854775807 < 1 + t184.size) = False := eq_false (Nat.not_lt.2 c17)
       obtain rfl := Option.some.inj H
       go_wp2_with (first | ((with_reducible refine gate_dst (N := 18) rfl ?_); refine Kd.R_lit (Kd.int .i64) _ 3 ?hg (N := 18) ?hd (xs := ([wrap64 (a0 + 64)] : List Int)) (inner := [.int .i64 (wrap64 (a0 + 64))]) (ok := fun _ => True) (okp := fun _ => True) ?hr ?hp (fun _ hk => hk) trivial (Below.refl _ _) (Nat.le_refl _) (by simp) ?_; (case hd => rfl); (case hg => rfl); (case hr => first | (go_simp; done) | (go_simp; rfl)); (case hp => exact (Reps.one (show Kd.M (Kd.int .i64) _ _ _ (wrap64 (a0 + 64)) [.int .i64 (wrap64 (a0 + 64))] from rfl) (Reps.none _ _))); intro v182 w18 ho19 hb hg_ hnew_; clear hg_ hnew_; (first | rw [← Ny181.out] at ho19 | (simp only [Int.reduceToNat] at ho19; rw [← Ny181.out] at ho19)); have n0_ := Aside0.mk (Kd.R_lower ho19 (below_size zb)); have n1_ := Aside0.mk (below_step zb hb); clear HB; have HO183 := n0_; have HB := n1_; clear n0_ n1_; clear hb ho19; obtain ⟨Ao20, co20, eo20⟩ := Kd.R_slice HO183.out; subst eo20) | ((with_reducible refine gate_callee (f := 24) rfl ?_); refine goesL_ (some 19) rfl rfl Try.func24 (by kernel_rfl) rfl #[.slice Ao20 y181.length co20] rfl zl ?_; (with_reducible refine (utf_Encode.calls kj4 _ _ y181 t184 _ ?side1 ?side2 A16.out).mono ?_); (case side1 => repeat (first | exact (Kd.R_reads' HO183.out).2.2 | (with_reducible refine Kd.C_alloc ?_ _) | (with_reducible refine Kd.C_drewN ?_ _) | (with_reducible refine Kd.C_drew ?_))); (case side2 => exact (Kd.R_reads' HO183.out).2.1); rintro e w21 ⟨rfl, hb⟩; refine ⟨_, rfl, ?_⟩; have n0_ := Aside0.mk (Kd.R_below (zk HO183.out) hb); have n1_ := Aside0.mk (below_step zb hb); clear HO183; clear HB; have HO183 := n0_; have HB := n1_; clear n0_ n1_; (try clear hb); (try clear hb2); (try clear hk); (try clear hi)))
       go_ret
       exact ⟨zr, zb⟩
      ·rw [if_neg c17] at H
       exact absurd H (by simp)
     ·rw [if_neg c15] at H
      have c15b0 : (t176 == 4) = false := beq_eq_false_iff_ne.mpr c15
      have c15b1 : (t176 != 4) = true := bne_iff_ne.mpr c15
      by_cases c22 : t176 = 5
      ·rw [if_pos c22] at H
       have c22b0 : (t176 == 5) = true := beq_iff_eq.mpr c22
       have c22b1 : (t176 != 5) = false := bne_eq_false_iff_eq.mpr c22
       clear c22
       obtain rfl := Option.some.inj H
       go_wp2
       go_ret
       exact ⟨zr, zb⟩
      ·rw [if_neg c22] at H
       have c22b0 : (t176 == 5) = false := beq_eq_false_iff_ne.mpr c22
       have c22b1 : (t176 != 5) = true := bne_iff_ne.mpr c22
       by_cases c23 : t176 = 12
       ·rw [if_pos c23] at H
        have c23b0 : (t176 == 12) = true := beq_iff_eq.mpr c23
        have c23b1 : (t176 != 12) = false := bne_eq_false_iff_eq.mpr c23
        clear c23
        replace H := Option.bind_eq_some_iff.mp H
        obtain ⟨t185, A240, H⟩ := H
        replace H : (if 2 + t185.size ≤ 9223372036854775807 then (some ((⟨#[92, 120]⟩ : ByteArray) ++ t185)) else (none)) = some r := H
        have A24 := Aside0.mk A240
        clear A240
        by_cases c25 : 2 + t185.size ≤ 9223372036854775807
        ·rw [if_pos c25] at H
         have c25b0 := eq_true c25
         have c25b1 : decide (2 + t185.size ≤ 9223372036854775807) = true := decide_eq_true c25
         try have c25b2 : (9223372036854775807 < 2 + t185.size) = False := eq_false (Nat.not_lt.2 c25)
         obtain rfl := Option.some.inj H
         go_wp2_with (first | ((with_reducible refine gate_callee (f := 48) rfl ?_); refine goesL_ (some 27) rfl rfl Try.func48 (by kernel_rfl) rfl #[.int .i64 (wrap64 (a0 - 1114112)), .int .i64 2] rfl zl ?_; (with_reducible refine (num_Hex.calls (wrap64 (a0 - 1114112)) 2 t185 _ A24.out).mono ?_); rintro e w26 ⟨rfl, hb⟩; refine ⟨_, rfl, ?_⟩; have n0_ := Aside0.mk (below_step zb hb); clear HB; have HB := n0_; clear n0_; (try clear hb); (try clear hb2); (try clear hk); (try clear hi)))
         go_ret
         exact ⟨zr, zb⟩
        ·rw [if_neg c25] at H
         exact absurd H (by simp)
       ·rw [if_neg c23] at H
        have c23b0 : (t176 == 12) = false := beq_eq_false_iff_ne.mpr c23
        have c23b1 : (t176 != 12) = true := bne_iff_ne.mpr c23
        replace H := Option.bind_eq_some_iff.mp H
        obtain ⟨t186, A270, H⟩ := H
        replace H : (if 3 + t186.size ≤ 9223372036854775807 then (if ((⟨#[60, 85, 43]⟩ : ByteArray) ++ t186).size + 1 ≤ 9223372036854775807 then (some (((⟨#[60, 85, 43]⟩ : ByteArray) ++ t186) ++ (⟨#[62]⟩ : ByteArray))) else (none)) else (none)) = some r := H
        have A27 := Aside0.mk A270
        clear A270
        by_cases c28 : 3 + t186.size ≤ 9223372036854775807
        ·rw [if_pos c28] at H
         have c28b0 := eq_true c28
         have c28b1 : decide (3 + t186.size ≤ 9223372036854775807) = true := decide_eq_true c28
         try have c28b2 : (9223372036854775807 < 3 + t186.size) = False := eq_false (Nat.not_lt.2 c28)
         by_cases c29 : ((⟨#[60, 85, 43]⟩ : ByteArray) ++ t186).size + 1 ≤ 9223372036854775807
         ·rw [if_pos c29] at H
          have c29b0 := eq_true c29
          have c29b1 : decide (((⟨#[60, 85, 43]⟩ : ByteArray) ++ t186).size + 1 ≤ 9223372036854775807) = true := decide_eq_true c29
          try have c29b2 : (9223372036854775807 < ((⟨#[60, 85, 43]⟩ : ByteArray) ++ t186).size + 1) = False := eq_false (Nat.not_lt.2 c29)
          try have c29b3 : (9223372036854775807 < 3 + t186.size + 1) = False := eq_false (by have h2_ := c29; simp only [ByteArray.size_append] at h2_; exact Nat.not_lt.2 h2_)
          obtain rfl := Option.some.inj H
          go_wp2_with (first | ((with_reducible refine gate_callee (f := 48) rfl ?_); refine goesL_ (some 30) rfl rfl Try.func48 (by kernel_rfl) rfl #[.int .i64 a0, .int .i64 4] rfl zl ?_; (with_reducible refine (num_Hex.calls a0 4 t186 _ A27.out).mono ?_); rintro e w30 ⟨rfl, hb⟩; refine ⟨_, rfl, ?_⟩; have n0_ := Aside0.mk (below_step zb hb); clear HB; have HB := n0_; clear n0_; (try clear hb); (try clear hb2); (try clear hk); (try clear hi)))
          go_ret
          exact ⟨zr, zb⟩
         ·rw [if_neg c29] at H
          exact absurd H (by simp)
        ·rw [if_neg c28] at H
         exact absurd H (by simp)

/-! ### spoof_Tell: function 8 -/
def spoof_Tell.f (k : Nat) (a0 : ByteArray) : Option ByteArray := spoof_kept.f (fun v => show_Text.f k v) a0
theorem spoof_Tell.mono : ∀ a0 k, LeO (spoof_Tell.f k a0) (spoof_Tell.f (k + 1) a0) := by
 intro a0 k
 exact spoof_kept.mono _ _ (fun v => show_Text.mono v k) a0
set_option maxHeartbeats 8000000 in
set_option maxRecDepth 100000 in
theorem spoof_Tell.calls (k : Nat) (a0 : ByteArray) (r : ByteArray) (w : World) (h : spoof_Tell.f k a0 = some r) :
  Calls Try.prog 8 #[.string a0] w fun e w' => e = .returned (.string r) ∧ Below w.heap.size w w' := by
 have eg : ∀ args w, (callFunc 25 args).run Try.prog w = .ok (.enter 25 args) w := enters_of Try.func25 (by kernel_rfl) rfl
 have HC := Aside0.mk (spoof_kept.calls _ 25 eg (fun W v t ht => show_Text.calls k v t W ht) a0 r w h)
 clear eg h
 go_enter Try.func8, Try.ntmps8
 go_wp2_with fail
 refine HC.out.mono ?_
 rintro e w1 ⟨rfl, hb1⟩
 clear HC
 go_wp2_with fail
 go_ret
 exact ⟨rfl, hb1⟩

/-! ### spoof_Fold_1: function 26 -/
def spoof_Fold_1.f (k : Nat) (a0 : Int) : Option (ByteArray) := (class_Skeleton.f a0).bind fun t187 => ((utf_Encode.f k (([t187] : List Int))).bind fun t191 => (some t191))
theorem spoof_Fold_1.mono : ∀ a0 k, LeO (spoof_Fold_1.f k a0) (spoof_Fold_1.f (k + 1) a0) := by
 intro a0 k
 unfold spoof_Fold_1.f
 repeat' first
   | (with_reducible exact utf_Encode.mono _ _)
   | (with_reducible exact LeO.refl _)
   | (with_reducible exact LeO.none _)
   | (with_reducible refine LeO.ite ?_ ?_)
   | (with_reducible refine LeO.bind ?_ (fun _ => ?_))
   | exact utf_Encode.mono _ _
   | exact LeO.none _
   | refine LeO.ite ?_ ?_
   | refine LeO.bind ?_ (fun _ => ?_)
set_option maxHeartbeats 8000000 in
set_option maxRecDepth 100000 in
theorem spoof_Fold_1.calls (k : Nat) (a0 : Int) (r : ByteArray) (w : World) (h : spoof_Fold_1.f k a0 = some r) :
  Calls Try.prog 26 #[.int .i64 a0] w fun e w' => e = .returned (.string r) ∧ Below w.heap.size w w' := by
 have HB := Aside0.mk (Below.refl w.heap.size w)
 have H : ((class_Skeleton.f a0).bind fun t187 => ((utf_Encode.f k (([t187] : List Int))).bind fun t191 => (some t191))) = some r := h
 clear h
 replace H := Option.bind_eq_some_iff.mp H
 obtain ⟨t187, A20, H⟩ := H
 replace H : ((utf_Encode.f k (([t187] : List Int))).bind fun t191 => (some t191)) = some r := H
 have A2 := Aside0.mk A20
 clear A20
 obtain ⟨y188, hy188⟩ : ∃ y_ : List Int, y_ = (([t187] : List Int)) := ⟨_, rfl⟩
 replace H : ((utf_Encode.f k y188).bind fun t191 => (some t191)) = some r := by first | (rw [hy188]; with_reducible exact H) | (have H2_ := (Option.bind_some _ _).symm.trans H; rw [hy188]; with_reducible exact H2_) | (have H2_ := (Option.bind_some _ _).symm.trans H; with_reducible exact H2_) | with_reducible exact H | (rw [hy188]; exact H) | exact H
 have Ny188 := Aside0.mk hy188
 clear hy188
 replace H := Option.bind_eq_some_iff.mp H
 obtain ⟨t191, A30, H⟩ := H
 replace H : (some t191) = some r := H
 have A3 := Aside0.mk A30
 clear A30
 obtain rfl := Option.some.inj H
 go_enter Try.func26, Try.ntmps26
 go_wp2_with (first | ((with_reducible refine gate_callee (f := 27) rfl ?_); refine goesL_ (some 4) rfl rfl Try.func27 (by kernel_rfl) rfl #[.int .i64 a0] rfl zl ?_; (with_reducible refine (class_Skeleton.calls a0 t187 _ A2.out).mono ?_); rintro e w4 ⟨rfl, hb⟩; refine ⟨_, rfl, ?_⟩; have n0_ := Aside0.mk (below_step zb hb); clear HB; have HB := n0_; clear n0_; (try clear hb); (try clear hb2); (try clear hk); (try clear hi)) | ((with_reducible refine gate_dst (N := 5) rfl ?_); refine Kd.R_lit (Kd.int .i64) _ 3 ?hg (N := 5) ?hd (xs := ([t187] : List Int)) (inner := [.int .i64 t187]) (ok := fun _ => True) (okp := fun _ => True) ?hr ?hp (fun _ hk => hk) trivial (Below.refl _ _) (Nat.le_refl _) (by simp) ?_; (case hd => rfl); (case hg => rfl); (case hr => first | (go_simp; done) | (go_simp; rfl)); (case hp => exact (Reps.one (show Kd.M (Kd.int .i64) _ _ _ t187 [.int .i64 t187] from rfl) (Reps.none _ _))); intro v189 w5 ho6 hb hg_ hnew_; clear hg_ hnew_; (first | rw [← Ny188.out] at ho6 | (simp only [Int.reduceToNat] at ho6; rw [← Ny188.out] at ho6)); have n0_ := Aside0.mk (Kd.R_lower ho6 (below_size zb)); have n1_ := Aside0.mk (below_step zb hb); clear HB; have HO190 := n0_; have HB := n1_; clear n0_ n1_; clear hb ho6; obtain ⟨Ao7, co7, eo7⟩ := Kd.R_slice HO190.out; subst eo7) | ((with_reducible refine gate_callee (f := 24) rfl ?_); refine goesL_ (some 6) rfl rfl Try.func24 (by kernel_rfl) rfl #[.slice Ao7 y188.length co7] rfl zl ?_; (with_reducible refine (utf_Encode.calls k _ _ y188 t191 _ ?side1 ?side2 A3.out).mono ?_); (case side1 => repeat (first | exact (Kd.R_reads' HO190.out).2.2 | (with_reducible refine Kd.C_alloc ?_ _) | (with_reducible refine Kd.C_drewN ?_ _) | (with_reducible refine Kd.C_drew ?_))); (case side2 => exact (Kd.R_reads' HO190.out).2.1); rintro e w8 ⟨rfl, hb⟩; refine ⟨_, rfl, ?_⟩; have n0_ := Aside0.mk (Kd.R_below (zk HO190.out) hb); have n1_ := Aside0.mk (below_step zb hb); clear HO190; clear HB; have HO190 := n0_; have HB := n1_; clear n0_ n1_; (try clear hb); (try clear hb2); (try clear hk); (try clear hi)))
 go_ret
 exact ⟨zr, zb⟩

/-! ### spoof_Fold: function 9 -/
def spoof_Fold.f (k : Nat) (a0 : ByteArray) : Option ByteArray := spoof_kept.f (fun v => spoof_Fold_1.f k v) a0
theorem spoof_Fold.mono : ∀ a0 k, LeO (spoof_Fold.f k a0) (spoof_Fold.f (k + 1) a0) := by
 intro a0 k
 exact spoof_kept.mono _ _ (fun v => spoof_Fold_1.mono v k) a0
set_option maxHeartbeats 8000000 in
set_option maxRecDepth 100000 in
theorem spoof_Fold.calls (k : Nat) (a0 : ByteArray) (r : ByteArray) (w : World) (h : spoof_Fold.f k a0 = some r) :
  Calls Try.prog 9 #[.string a0] w fun e w' => e = .returned (.string r) ∧ Below w.heap.size w w' := by
 have eg : ∀ args w, (callFunc 26 args).run Try.prog w = .ok (.enter 26 args) w := enters_of Try.func26 (by kernel_rfl) rfl
 have HC := Aside0.mk (spoof_kept.calls _ 26 eg (fun W v t ht => spoof_Fold_1.calls k v t W ht) a0 r w h)
 clear eg h
 go_enter Try.func9, Try.ntmps9
 go_wp2_with fail
 refine HC.out.mono ?_
 rintro e w1 ⟨rfl, hb1⟩
 clear HC
 go_wp2_with fail
 go_ret
 exact ⟨rfl, hb1⟩

/-! ### spoof_Alike: function 15 -/
def spoof_Alike.f (k : Nat) (a0 : ByteArray) (a1 : ByteArray) : Option (Bool) := (spoof_Strip.f k a0).bind fun t192 => ((spoof_Fold.f k t192).bind fun t193 => ((spoof_Strip.f k a1).bind fun t194 => ((spoof_Fold.f k t194).bind fun t195 => (some (t193.toList == t195.toList)))))
theorem spoof_Alike.mono : ∀ a0 a1 k, LeO (spoof_Alike.f k a0 a1) (spoof_Alike.f (k + 1) a0 a1) := by
 intro a0 a1 k
 unfold spoof_Alike.f
 repeat' first
   | (with_reducible exact spoof_Fold.mono _ _)
   | (with_reducible exact spoof_Strip.mono _ _)
   | (with_reducible exact LeO.refl _)
   | (with_reducible exact LeO.none _)
   | (with_reducible refine LeO.ite ?_ ?_)
   | (with_reducible refine LeO.bind ?_ (fun _ => ?_))
   | exact spoof_Fold.mono _ _
   | exact spoof_Strip.mono _ _
   | exact LeO.none _
   | refine LeO.ite ?_ ?_
   | refine LeO.bind ?_ (fun _ => ?_)
set_option maxHeartbeats 8000000 in
set_option maxRecDepth 100000 in
theorem spoof_Alike.calls (k : Nat) (a0 : ByteArray) (a1 : ByteArray) (r : Bool) (w : World) (h : spoof_Alike.f k a0 a1 = some r) :
  Calls Try.prog 15 #[.string a0, .string a1] w fun e w' => e = .returned (.bool r) ∧ Below w.heap.size w w' := by
 have HB := Aside0.mk (Below.refl w.heap.size w)
 have H : ((spoof_Strip.f k a0).bind fun t192 => ((spoof_Fold.f k t192).bind fun t193 => ((spoof_Strip.f k a1).bind fun t194 => ((spoof_Fold.f k t194).bind fun t195 => (some (t193.toList == t195.toList)))))) = some r := h
 clear h
 replace H := Option.bind_eq_some_iff.mp H
 obtain ⟨t192, A30, H⟩ := H
 replace H : ((spoof_Fold.f k t192).bind fun t193 => ((spoof_Strip.f k a1).bind fun t194 => ((spoof_Fold.f k t194).bind fun t195 => (some (t193.toList == t195.toList))))) = some r := H
 have A3 := Aside0.mk A30
 clear A30
 replace H := Option.bind_eq_some_iff.mp H
 obtain ⟨t193, A40, H⟩ := H
 replace H : ((spoof_Strip.f k a1).bind fun t194 => ((spoof_Fold.f k t194).bind fun t195 => (some (t193.toList == t195.toList)))) = some r := H
 have A4 := Aside0.mk A40
 clear A40
 replace H := Option.bind_eq_some_iff.mp H
 obtain ⟨t194, A50, H⟩ := H
 replace H : ((spoof_Fold.f k t194).bind fun t195 => (some (t193.toList == t195.toList))) = some r := H
 have A5 := Aside0.mk A50
 clear A50
 replace H := Option.bind_eq_some_iff.mp H
 obtain ⟨t195, A60, H⟩ := H
 replace H : (some (t193.toList == t195.toList)) = some r := H
 have A6 := Aside0.mk A60
 clear A60
 obtain rfl := Option.some.inj H
 go_enter Try.func15, Try.ntmps15
 go_wp2_with (first | ((with_reducible refine gate_callee (f := 7) rfl ?_); refine goesL_ (some 6) rfl rfl Try.func7 (by kernel_rfl) rfl #[.string a0] rfl zl ?_; (with_reducible refine (spoof_Strip.calls k a0 t192 _ A3.out).mono ?_); rintro e w7 ⟨rfl, hb⟩; refine ⟨_, rfl, ?_⟩; have n0_ := Aside0.mk (below_step zb hb); clear HB; have HB := n0_; clear n0_; (try clear hb); (try clear hb2); (try clear hk); (try clear hi)) | ((with_reducible refine gate_callee (f := 9) rfl ?_); refine goesL_ (some 7) rfl rfl Try.func9 (by kernel_rfl) rfl #[.string t192] rfl zl ?_; (with_reducible refine (spoof_Fold.calls k t192 t193 _ A4.out).mono ?_); rintro e w8 ⟨rfl, hb⟩; refine ⟨_, rfl, ?_⟩; have n0_ := Aside0.mk (below_step zb hb); clear HB; have HB := n0_; clear n0_; (try clear hb); (try clear hb2); (try clear hk); (try clear hi)) | ((with_reducible refine gate_callee (f := 7) rfl ?_); refine goesL_ (some 9) rfl rfl Try.func7 (by kernel_rfl) rfl #[.string a1] rfl zl ?_; (with_reducible refine (spoof_Strip.calls k a1 t194 _ A5.out).mono ?_); rintro e w9 ⟨rfl, hb⟩; refine ⟨_, rfl, ?_⟩; have n0_ := Aside0.mk (below_step zb hb); clear HB; have HB := n0_; clear n0_; (try clear hb); (try clear hb2); (try clear hk); (try clear hi)) | ((with_reducible refine gate_callee (f := 9) rfl ?_); refine goesL_ (some 10) rfl rfl Try.func9 (by kernel_rfl) rfl #[.string t194] rfl zl ?_; (with_reducible refine (spoof_Fold.calls k t194 t195 _ A6.out).mono ?_); rintro e w10 ⟨rfl, hb⟩; refine ⟨_, rfl, ?_⟩; have n0_ := Aside0.mk (below_step zb hb); clear HB; have HB := n0_; clear n0_; (try clear hb); (try clear hb2); (try clear hk); (try clear hi)))
 go_ret
 exact ⟨zr, zb⟩

/-! ### utf_Decode: function 35 -/
def utf_Decode.v (s : ByteArray) (p : Nat) : Int := (utf_value.f (s.extract p s.size) ((Utf8.decode s p).1 : Int)).getD 0
def utf_Decode.l : Nat → ByteArray → Nat → List Int
 | 0, _, _ => []
 | n + 1, s, p => if p < s.size then utf_Decode.v s p :: utf_Decode.l n s (p + (Utf8.decode s p).2) else []
def utf_Decode.f (a0 : ByteArray) : Option (List Int) := if a0.size < 17592186044416 then some (utf_Decode.l a0.size a0 0) else none
theorem utf_Decode.has (s p : ByteArray) : ∃ b, strings_HasPrefix.f s p = some b := by
 unfold strings_HasPrefix.f stringslite_HasPrefix.f
 repeat' split
 all_goals first | exact ⟨_, rfl⟩ | omega
theorem utf_Decode.val (s : ByteArray) (r : Int) (h : 0 < s.size) : ∃ v, utf_value.f s r = some v := by
 unfold utf_value.f
 obtain ⟨b, hb⟩ := utf_Decode.has s (⟨#[239, 191, 189]⟩ : ByteArray)
 rw [hb]
 simp only [Option.bind_some]
 repeat' split
 all_goals first | exact ⟨_, rfl⟩ | omega
theorem utf_Decode.value_some (s : ByteArray) (p : Nat) (h : p < s.size) : utf_value.f (s.extract p s.size) ((Utf8.decode s p).1 : Int) = some (utf_Decode.v s p) := by
 obtain ⟨v, hv⟩ := utf_Decode.val (s.extract p s.size) ((Utf8.decode s p).1 : Int) (by rw [ByteArray.size_extract]; omega)
 unfold utf_Decode.v
 rw [hv]
 rfl
theorem utf_Decode.width (s : ByteArray) (p : Nat) (h : p < s.size) : 1 ≤ (Utf8.decode s p).2 := by
 by_cases ha : (s[p]'h).toNat < 128
 ·rw [decode_ascii s p h ha]
  exact Nat.le_refl _
 ·exact (decode_high s p h (by omega)).2
theorem utf_Decode.l_len (s : ByteArray) : ∀ n p, (utf_Decode.l n s p).length ≤ n
 | 0, _ => Nat.le_refl _
 | n + 1, p => by
  unfold utf_Decode.l
  split
  ·rw [List.length_cons]; have := utf_Decode.l_len s n (p + (Utf8.decode s p).2); omega
  ·simp
set_option maxHeartbeats 8000000 in
set_option maxRecDepth 100000 in
theorem utf_Decode.calls (a0 : ByteArray) (r : List Int) (w : World) (h : utf_Decode.f a0 = some r) :
  Calls Try.prog 35 #[.string a0] w fun e w' => ∃ v0_ : Value, e = .returned (v0_) ∧ Kd.R (Kd.int .i64) 3 w' w.heap.size (fun _ => True) v0_ r ∧ Below w.heap.size w w' := by
 unfold utf_Decode.f at h
 split at h
 case isFalse => cases h
 rename_i hsz
 obtain rfl := Option.some.inj h
 clear h
 go_enter Try.func35, Try.ntmps35
 go_wp2
 go_loopg [3] a0.size (fun b v3 wr => ∃ (pos : Nat) (acc : List Int), wr.heap[w.heap.size]? = some (.stringIter a0 pos) ∧ Aside0 (Kd.R (Kd.int .i64) 3 wr (w.heap.size + 1) (fun _ => True) v3 acc) ∧ Aside0 (Below w.heap.size w wr) ∧ Aside0 (acc ++ utf_Decode.l b a0 pos = utf_Decode.l a0.size a0 0) ∧ Aside0 (a0.size ≤ pos + b) ∧ Aside0 (acc.length + b ≤ a0.size))
 case atStart => exact ⟨0, [], World.iter_heap w a0 0, ⟨Kd.R_nil _ _ _ _ _⟩, ⟨(Below.refl _ _).alloc (Nat.le_refl _) _⟩, ⟨rfl⟩, ⟨by omega⟩, ⟨by simp⟩⟩
 case round =>
  obtain ⟨pos, acc, hit, HO, HB, HE, HS, HL⟩ := hrel
  by_cases hp : pos < a0.size
  ·have hnx : ∀ ty, (Instr.next (.pointer (some ⟨w.heap.size, 0, none⟩)) true ty).run Try.prog wr = _ := fun ty => Lib.run_next_any_at wr w.heap.size a0 pos ty hit hp
   have hwd := utf_Decode.width a0 pos hp
   have hdl := decode_le a0 pos
   have hv := Aside0.mk (utf_Decode.value_some a0 pos hp)
   cases gk with
   | zero => exact absurd HS.out (by omega)
   | succ b =>
   have hit2 := Lib.iterAt_heap wr w.heap.size a0 pos (pos + (Utf8.decode a0 pos).2) hit
   have hbw2 := Lib.below_iterAt HB.out (k := w.heap.size) (Nat.le_refl _) a0 (pos + (Utf8.decode a0 pos).2)
   have hown2 : Kd.R (Kd.int .i64) 3 (wr.iterAt w.heap.size a0 (pos + (Utf8.decode a0 pos).2)) (w.heap.size + 1) (fun _ => True) u3 acc := Kd.R_mono (Kd.R_step (Kd.R_bound HO.out) (fun k hk _ => Lib.iterAt_other wr w.heap.size k a0 _ (by have := hk.2.1; omega))) (fun _ _ => trivial)
   obtain ⟨W1, hW1⟩ : ∃ W1, W1 = wr.iterAt w.heap.size a0 (pos + (Utf8.decode a0 pos).2) := ⟨_, rfl⟩
   rw [← hW1] at hnx hit2 hbw2 hown2
   have hlt : w.heap.size < W1.heap.size := lt_of_block hit2
   clear hW1 hit HO HB
   have hit2' := Aside0.mk hit2
   have HB := Aside0.mk hbw2
   have HO := Aside0.mk hown2
   clear hit2 hbw2 hown2
   obtain ⟨y0, hy0⟩ : ∃ y_ : List Int, y_ = (acc ++ [utf_Decode.v a0 pos]) := ⟨_, rfl⟩
   have Ny := Aside0.mk hy0
   clear hy0
   go_wp2_with (first | ((with_reducible refine gate_callee (f := 55) rfl ?_); refine goesL_ (some 17) rfl rfl Try.func55 (by kernel_rfl) rfl #[.string (a0.extract pos a0.size), .int .i32 ((Utf8.decode a0 pos).1 : Int)] rfl zl ?_; (with_reducible refine (utf_value.calls _ _ _ _ hv.out).mono ?_); rintro e w' ⟨rfl, ⟨nd, rfl⟩⟩; refine ⟨_, rfl, ?_⟩) | ((with_reducible refine gate_builtin (b := .append) (xs := #[.tmp 12, .tmp 18]) rfl ?_); at_builtin; refine Kd.R_append (Kd.int .i64) (w0 := W1) (w.heap.size + 1) rfl (.tmp 12) (.tmp 18) 24 3 (.int .i64 0) 8 rfl Try.underlying24 info3 rfl (by decide) (by omega) u3 acc (utf_Decode.v a0 pos) [.int .i64 (utf_Decode.v a0 pos)] (fun _ => True) (fun _ => False) rfl rfl ?aP (fun _ hk => hk.elim) ?aF ?aO ?aB ?aS ?aL ?_; (case aP => exact rfl); (case aB => exact pw_below_drewN (Below.refl _ _) _); (case aF => exact (fun _ _ => trivial)); (case aO => exact (zk HO.out)); (case aS => exact hlt); (case aL => have := HL.out; omega); intro v143 w7 ho hb hg hat; rw [← Ny.out] at ho; have n0_ := Aside0.mk (hb); have n1_ := Aside0.mk (ho); clear HO; have HO := n1_; have HBn := n0_; clear n0_ n1_; clear ho hb hg hat))
   go_roundg b
   case measure => omega
   case rel => exact ⟨pos + (Utf8.decode a0 pos).2, y0, (HBn.out.block _ (by omega)).trans hit2'.out, HO, ⟨HB.out.trans ⟨HBn.out.os, HBn.out.tape, HBn.out.output, HBn.out.size, fun i hi => HBn.out.block i (by omega)⟩⟩, ⟨by rw [Ny.out]; have := HE.out; simp only [utf_Decode.l, if_pos hp] at this; rw [← this]; simp⟩, ⟨by have := HS.out; omega⟩, ⟨by rw [Ny.out, List.length_append, List.length_singleton]; have := HL.out; omega⟩⟩
  ·have hnx : ∀ ty, (Instr.next (.pointer (some ⟨w.heap.size, 0, none⟩)) true ty).run Try.prog wr = _ := fun ty => Lib.run_next_end_at wr w.heap.size a0 pos ty hit hp
   have he : acc = utf_Decode.l a0.size a0 0 := by
    have := HE.out
    rw [← this]
    cases gk with
    | zero => simp [utf_Decode.l]
    | succ b => simp [utf_Decode.l, hp]
   have He := Aside0.mk he
   clear he
   go_wp2
   go_ret
   exact ⟨_, rfl, He.out ▸ Kd.R_lower HO.out (Nat.le_succ _), HB.out⟩

end Go.Proofs.Ytpkmoonfnbcphaa.PAll
