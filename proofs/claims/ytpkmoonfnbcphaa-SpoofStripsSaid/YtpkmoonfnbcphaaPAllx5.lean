-- Printed for this claim by the session's own program (wip/tool/hprint.py) over the kit's print; some functions' texts are the session's own.
import Derived.Test.YtpkmoonfnbcphaaPAllx0
import Derived.Test.YtpkmoonfnbcphaaPAllx2
import Derived.Test.YtpkmoonfnbcphaaPAllx3
import Derived.Test.YtpkmoonfnbcphaaPAllx4
namespace Go.Proofs.Ytpkmoonfnbcphaa.PAll
open Go.RowKit Go.Proofs.YtpkmoonfnbcphaaW.PrintWords Go.Proofs.YtpkmoonfnbcphaaW.PrintLast Go.Proofs.YtpkmoonfnbcphaaW.PrintMore
attribute [local go_sem] max2_int min2_int max_two min_two max_three min_three max_four min_four   -- for this text's walks alone
set_option linter.unusedVariables false
set_option linter.unusedSimpArgs false

/-! ### spoof_Find: function 20 -/
def spoof_Find.p (k : Nat) (s : ByteArray) (t : ByteArray) : Bool := (t.toList != s.toList) && ((spoof_Alike.f k s t).getD false)
def spoof_Find.f (k : Nat) (a0 : ByteArray) (l0 : List ByteArray) : Option Int := if l0.all (fun t => (spoof_Alike.f k a0 t).isSome) = true then (if l0.length < 9223372036854775807 then some (idx_string.g (spoof_Find.p k a0) l0 0) else none) else none
theorem spoof_Find.g_congr (p q : ByteArray → Bool) (l : List ByteArray) (h : ∀ x ∈ l, p x = q x) : ∀ i, idx_string.g p l i = idx_string.g q l i := by
 induction l with
 | nil => intro i; rfl
 | cons x l ih =>
  intro i
  unfold idx_string.g
  rw [h x List.mem_cons_self, ih (fun y hy => h y (List.mem_cons_of_mem _ hy))]
theorem spoof_Find.mono : ∀ a0 l0 k, LeO (spoof_Find.f k a0 l0) (spoof_Find.f (k + 1) a0 l0) := by
 intro a0 l0 k r h
 unfold spoof_Find.f at h
 split at h
 case isFalse => cases h
 rename_i ha
 split at h
 case isFalse => cases h
 rename_i hl
 obtain rfl := Option.some.inj h
 have hall := List.all_eq_true.mp ha
 have hs : ∀ x ∈ l0, ∃ b, spoof_Alike.f k a0 x = some b ∧ spoof_Alike.f (k + 1) a0 x = some b := fun x hx => by
  obtain ⟨b, hb⟩ := Option.isSome_iff_exists.mp (hall x hx)
  exact ⟨b, hb, spoof_Alike.mono _ _ _ _ hb⟩
 unfold spoof_Find.f
 rw [if_pos (List.all_eq_true.mpr (fun x hx => by obtain ⟨b, _, hb⟩ := hs x hx; rw [hb]; rfl)), if_pos hl]
 congr 1
 exact spoof_Find.g_congr _ _ _ (fun x hx => by
  obtain ⟨b, h1, h2⟩ := hs x hx
  unfold spoof_Find.p
  rw [h1, h2]) 0
set_option maxHeartbeats 8000000 in
set_option maxRecDepth 100000 in
theorem spoof_Find.pred (k : Nat) (s : ByteArray) (b : Nat) (W : World) (t : ByteArray) (hb : W.cell? ⟨b, 0, none⟩ = some (.string s)) (hx : (spoof_Alike.f k s t).isSome = true) :
  Calls Try.prog 40 (#[.string t] ++ #[.pointer (some ⟨b, 0, none⟩)]) W fun e w' => e = .returned (.bool (spoof_Find.p k s t)) ∧ Below W.heap.size W w' := by
 obtain ⟨r, hr⟩ := Option.isSome_iff_exists.mp hx
 have hc := Aside0.mk (fun W => spoof_Alike.calls k s t r W hr)
 show Calls Try.prog 40 #[.string t, .pointer (some ⟨b, 0, none⟩)] W _
 by_cases e : t.toList = s.toList
 ·have hp : Aside0 (spoof_Find.p k s t = false) := ⟨by unfold spoof_Find.p; rw [e, bne_self_eq_false]; rfl⟩
  have e1 : (t.toList == s.toList) = true := beq_iff_eq.mpr e
  have e2 : (t.toList != s.toList) = false := bne_eq_false_iff_eq.mpr e
  clear hr hx hc e
  go_enter Try.func40, Try.ntmps40
  go_wp2_with fail
  go_ret
  exact ⟨by rw [hp.out]; rfl, Below.refl _ _⟩
 ·have hp : Aside0 (spoof_Find.p k s t = r) := ⟨by unfold spoof_Find.p; rw [hr, bne_iff_ne.mpr e]; rfl⟩
  have e1 : (t.toList == s.toList) = false := beq_eq_false_iff_ne.mpr e
  have e2 : (t.toList != s.toList) = true := bne_iff_ne.mpr e
  clear hr hx e
  go_enter Try.func40, Try.ntmps40
  go_wp2_with fail
  refine (hc.out _).mono ?_
  rintro e w' ⟨rfl, hb'⟩
  clear hc
  go_wp2_with fail
  go_ret
  exact ⟨by rw [hp.out]; rfl, hb'⟩
set_option maxHeartbeats 8000000 in
set_option maxRecDepth 100000 in
theorem spoof_Find.calls (k : Nat) (a0 : ByteArray) (A1 : Option Addr) (c1 : Nat) (l1 : List ByteArray) (r : Int) (w : World) (hr1 : Kd.C Kd.string w A1 l1.length l1) (hc1 : l1.length ≤ c1) (h : spoof_Find.f k a0 l1 = some r) :
  Calls Try.prog 20 #[.string a0, .slice A1 l1.length c1] w fun e w' => e = .returned (.int .i64 r) ∧ Below w.heap.size w w' := by
 unfold spoof_Find.f at h
 split at h
 case isFalse => cases h
 rename_i ha
 split at h
 case isFalse => cases h
 rename_i hn
 obtain rfl := Option.some.inj h
 clear h
 have eg : ∀ args w, (callFunc 40 args).run Try.prog w = .ok (.enter 40 args) w := enters_of Try.func40 (by kernel_rfl) rfl
 have HC := Aside0.mk (idx_string.calls (spoof_Find.p k a0) 40 #[.pointer (some ⟨w.heap.size, 0, none⟩)] eg A1 c1 l1 (w.alloc (.cells #[.string a0] 9)) (Kd.C_alloc hr1 _) hn (fun W x hx hb => spoof_Find.pred k a0 w.heap.size W x ((hb.cell (by simp)).trans (by simp)) (List.all_eq_true.mp ha x hx)))
 generalize hq : idx_string.g (spoof_Find.p k a0) l1 0 = q at *
 clear eg ha hq hr1
 go_enter Try.func20, Try.ntmps20
 go_wp2_with fail
 refine HC.out.mono ?_
 rintro e w1 ⟨rfl, hb1⟩
 clear HC
 go_wp2_with fail
 go_ret
 exact ⟨rfl, below_step ((Below.refl _ w).alloc (Nat.le_refl _) _) hb1⟩

/-! ### dactyllaw44_awake: function 6 -/
def dactyllaw44_awake.f (k : Nat)  : Option (Bool) := (spoof_Scripts.f k (⟨#[112, 208, 176, 121]⟩ : ByteArray)).bind fun t213 => ((spoof_Strip.f k (⟨#[97, 226, 128, 174, 98, 27]⟩ : ByteArray)).bind fun t216 => (if t216.toList = ([97, 98] : List UInt8) then ((spoof_Tell.f k (⟨#[97, 27]⟩ : ByteArray)).bind fun t217 => (if t217.toList = ([97, 94, 91] : List UInt8) then ((spoof_Fold.f k (⟨#[112, 208, 176, 121]⟩ : ByteArray)).bind fun t218 => (if t218.toList = ([112, 97, 121] : List UInt8) then ((spoof_Alike.f k (⟨#[112, 208, 176, 121]⟩ : ByteArray) (⟨#[112, 97, 121]⟩ : ByteArray)).bind fun t219 => (if t219 = true then ((spoof_Mixed.f k (⟨#[112, 208, 176, 121]⟩ : ByteArray)).bind fun t220 => (if t220 = true then ((spoof_Mixed.f k (⟨#[112, 97, 121]⟩ : ByteArray)).bind fun t221 => (if t221 = true then (some false) else (if (t213.length : Int) = 2 then (if 1 < (t213.length : Int) then (if (rd t213 1) = 3 then ((spoof_Find.f k (⟨#[112, 97, 121]⟩ : ByteArray) (([(⟨#[112, 97, 121]⟩ : ByteArray), (⟨#[112, 208, 176, 121]⟩ : ByteArray)] : List ByteArray))).bind fun t226 => (some (t226 == 1))) else (some false)) else (none)) else (some false)))) else (some false))) else (some false))) else (some false))) else (some false))) else (some false)))
theorem dactyllaw44_awake.mono : ∀ k, LeO (dactyllaw44_awake.f k ) (dactyllaw44_awake.f (k + 1) ) := by
 intro  k
 unfold dactyllaw44_awake.f
 repeat' first
   | (with_reducible exact spoof_Alike.mono _ _ _)
   | (with_reducible exact spoof_Find.mono _ _ _)
   | (with_reducible exact spoof_Fold.mono _ _)
   | (with_reducible exact spoof_Mixed.mono _ _)
   | (with_reducible exact spoof_Scripts.mono _ _)
   | (with_reducible exact spoof_Strip.mono _ _)
   | (with_reducible exact spoof_Tell.mono _ _)
   | (with_reducible exact LeO.refl _)
   | (with_reducible exact LeO.none _)
   | (with_reducible refine LeO.ite ?_ ?_)
   | (with_reducible refine LeO.bind ?_ (fun _ => ?_))
   | exact spoof_Alike.mono _ _ _
   | exact spoof_Find.mono _ _ _
   | exact spoof_Fold.mono _ _
   | exact spoof_Mixed.mono _ _
   | exact spoof_Scripts.mono _ _
   | exact spoof_Strip.mono _ _
   | exact spoof_Tell.mono _ _
   | exact LeO.none _
   | refine LeO.ite ?_ ?_
   | refine LeO.bind ?_ (fun _ => ?_)
set_option maxHeartbeats 8000000 in
set_option maxRecDepth 100000 in
theorem dactyllaw44_awake.calls (k : Nat)  (r : Bool) (w : World) (h : dactyllaw44_awake.f k  = some r) :
  Calls Try.prog 6 #[] w fun e w' => e = .returned (.bool r) ∧ Below w.heap.size w w' := by
 have HB := Aside0.mk (Below.refl w.heap.size w)
 have H : ((spoof_Scripts.f k (⟨#[112, 208, 176, 121]⟩ : ByteArray)).bind fun t213 => ((spoof_Strip.f k (⟨#[97, 226, 128, 174, 98, 27]⟩ : ByteArray)).bind fun t216 => (if t216.toList = ([97, 98] : List UInt8) then ((spoof_Tell.f k (⟨#[97, 27]⟩ : ByteArray)).bind fun t217 => (if t217.toList = ([97, 94, 91] : List UInt8) then ((spoof_Fold.f k (⟨#[112, 208, 176, 121]⟩ : ByteArray)).bind fun t218 => (if t218.toList = ([112, 97, 121] : List UInt8) then ((spoof_Alike.f k (⟨#[112, 208, 176, 121]⟩ : ByteArray) (⟨#[112, 97, 121]⟩ : ByteArray)).bind fun t219 => (if t219 = true then ((spoof_Mixed.f k (⟨#[112, 208, 176, 121]⟩ : ByteArray)).bind fun t220 => (if t220 = true then ((spoof_Mixed.f k (⟨#[112, 97, 121]⟩ : ByteArray)).bind fun t221 => (if t221 = true then (some false) else (if (t213.length : Int) = 2 then (if 1 < (t213.length : Int) then (if (rd t213 1) = 3 then ((spoof_Find.f k (⟨#[112, 97, 121]⟩ : ByteArray) (([(⟨#[112, 97, 121]⟩ : ByteArray), (⟨#[112, 208, 176, 121]⟩ : ByteArray)] : List ByteArray))).bind fun t226 => (some (t226 == 1))) else (some false)) else (none)) else (some false)))) else (some false))) else (some false))) else (some false))) else (some false))) else (some false)))) = some r := h
 clear h
 replace H := Option.bind_eq_some_iff.mp H
 obtain ⟨t213, A10, H⟩ := H
 replace H : ((spoof_Strip.f k (⟨#[97, 226, 128, 174, 98, 27]⟩ : ByteArray)).bind fun t216 => (if t216.toList = ([97, 98] : List UInt8) then ((spoof_Tell.f k (⟨#[97, 27]⟩ : ByteArray)).bind fun t217 => (if t217.toList = ([97, 94, 91] : List UInt8) then ((spoof_Fold.f k (⟨#[112, 208, 176, 121]⟩ : ByteArray)).bind fun t218 => (if t218.toList = ([112, 97, 121] : List UInt8) then ((spoof_Alike.f k (⟨#[112, 208, 176, 121]⟩ : ByteArray) (⟨#[112, 97, 121]⟩ : ByteArray)).bind fun t219 => (if t219 = true then ((spoof_Mixed.f k (⟨#[112, 208, 176, 121]⟩ : ByteArray)).bind fun t220 => (if t220 = true then ((spoof_Mixed.f k (⟨#[112, 97, 121]⟩ : ByteArray)).bind fun t221 => (if t221 = true then (some false) else (if (t213.length : Int) = 2 then (if 1 < (t213.length : Int) then (if (rd t213 1) = 3 then ((spoof_Find.f k (⟨#[112, 97, 121]⟩ : ByteArray) (([(⟨#[112, 97, 121]⟩ : ByteArray), (⟨#[112, 208, 176, 121]⟩ : ByteArray)] : List ByteArray))).bind fun t226 => (some (t226 == 1))) else (some false)) else (none)) else (some false)))) else (some false))) else (some false))) else (some false))) else (some false))) else (some false))) = some r := H
 have A1 := Aside0.mk A10
 clear A10
 replace H := Option.bind_eq_some_iff.mp H
 obtain ⟨t216, A20, H⟩ := H
 replace H : (if t216.toList = ([97, 98] : List UInt8) then ((spoof_Tell.f k (⟨#[97, 27]⟩ : ByteArray)).bind fun t217 => (if t217.toList = ([97, 94, 91] : List UInt8) then ((spoof_Fold.f k (⟨#[112, 208, 176, 121]⟩ : ByteArray)).bind fun t218 => (if t218.toList = ([112, 97, 121] : List UInt8) then ((spoof_Alike.f k (⟨#[112, 208, 176, 121]⟩ : ByteArray) (⟨#[112, 97, 121]⟩ : ByteArray)).bind fun t219 => (if t219 = true then ((spoof_Mixed.f k (⟨#[112, 208, 176, 121]⟩ : ByteArray)).bind fun t220 => (if t220 = true then ((spoof_Mixed.f k (⟨#[112, 97, 121]⟩ : ByteArray)).bind fun t221 => (if t221 = true then (some false) else (if (t213.length : Int) = 2 then (if 1 < (t213.length : Int) then (if (rd t213 1) = 3 then ((spoof_Find.f k (⟨#[112, 97, 121]⟩ : ByteArray) (([(⟨#[112, 97, 121]⟩ : ByteArray), (⟨#[112, 208, 176, 121]⟩ : ByteArray)] : List ByteArray))).bind fun t226 => (some (t226 == 1))) else (some false)) else (none)) else (some false)))) else (some false))) else (some false))) else (some false))) else (some false))) else (some false)) = some r := H
 have A2 := Aside0.mk A20
 clear A20
 by_cases c3 : t216.toList = ([97, 98] : List UInt8)
 ·rw [if_pos c3] at H
  have c3b0 : (t216.toList == ([97, 98] : List UInt8)) = true := beq_iff_eq.mpr c3
  have c3b1 : (t216.toList != ([97, 98] : List UInt8)) = false := bne_eq_false_iff_eq.mpr c3
  clear c3
  replace H := Option.bind_eq_some_iff.mp H
  obtain ⟨t217, A40, H⟩ := H
  replace H : (if t217.toList = ([97, 94, 91] : List UInt8) then ((spoof_Fold.f k (⟨#[112, 208, 176, 121]⟩ : ByteArray)).bind fun t218 => (if t218.toList = ([112, 97, 121] : List UInt8) then ((spoof_Alike.f k (⟨#[112, 208, 176, 121]⟩ : ByteArray) (⟨#[112, 97, 121]⟩ : ByteArray)).bind fun t219 => (if t219 = true then ((spoof_Mixed.f k (⟨#[112, 208, 176, 121]⟩ : ByteArray)).bind fun t220 => (if t220 = true then ((spoof_Mixed.f k (⟨#[112, 97, 121]⟩ : ByteArray)).bind fun t221 => (if t221 = true then (some false) else (if (t213.length : Int) = 2 then (if 1 < (t213.length : Int) then (if (rd t213 1) = 3 then ((spoof_Find.f k (⟨#[112, 97, 121]⟩ : ByteArray) (([(⟨#[112, 97, 121]⟩ : ByteArray), (⟨#[112, 208, 176, 121]⟩ : ByteArray)] : List ByteArray))).bind fun t226 => (some (t226 == 1))) else (some false)) else (none)) else (some false)))) else (some false))) else (some false))) else (some false))) else (some false)) = some r := H
  have A4 := Aside0.mk A40
  clear A40
  by_cases c5 : t217.toList = ([97, 94, 91] : List UInt8)
  ·rw [if_pos c5] at H
   have c5b0 : (t217.toList == ([97, 94, 91] : List UInt8)) = true := beq_iff_eq.mpr c5
   have c5b1 : (t217.toList != ([97, 94, 91] : List UInt8)) = false := bne_eq_false_iff_eq.mpr c5
   clear c5
   replace H := Option.bind_eq_some_iff.mp H
   obtain ⟨t218, A60, H⟩ := H
   replace H : (if t218.toList = ([112, 97, 121] : List UInt8) then ((spoof_Alike.f k (⟨#[112, 208, 176, 121]⟩ : ByteArray) (⟨#[112, 97, 121]⟩ : ByteArray)).bind fun t219 => (if t219 = true then ((spoof_Mixed.f k (⟨#[112, 208, 176, 121]⟩ : ByteArray)).bind fun t220 => (if t220 = true then ((spoof_Mixed.f k (⟨#[112, 97, 121]⟩ : ByteArray)).bind fun t221 => (if t221 = true then (some false) else (if (t213.length : Int) = 2 then (if 1 < (t213.length : Int) then (if (rd t213 1) = 3 then ((spoof_Find.f k (⟨#[112, 97, 121]⟩ : ByteArray) (([(⟨#[112, 97, 121]⟩ : ByteArray), (⟨#[112, 208, 176, 121]⟩ : ByteArray)] : List ByteArray))).bind fun t226 => (some (t226 == 1))) else (some false)) else (none)) else (some false)))) else (some false))) else (some false))) else (some false)) = some r := H
   have A6 := Aside0.mk A60
   clear A60
   by_cases c7 : t218.toList = ([112, 97, 121] : List UInt8)
   ·rw [if_pos c7] at H
    have c7b0 : (t218.toList == ([112, 97, 121] : List UInt8)) = true := beq_iff_eq.mpr c7
    have c7b1 : (t218.toList != ([112, 97, 121] : List UInt8)) = false := bne_eq_false_iff_eq.mpr c7
    clear c7
    replace H := Option.bind_eq_some_iff.mp H
    obtain ⟨t219, A80, H⟩ := H
    replace H : (if t219 = true then ((spoof_Mixed.f k (⟨#[112, 208, 176, 121]⟩ : ByteArray)).bind fun t220 => (if t220 = true then ((spoof_Mixed.f k (⟨#[112, 97, 121]⟩ : ByteArray)).bind fun t221 => (if t221 = true then (some false) else (if (t213.length : Int) = 2 then (if 1 < (t213.length : Int) then (if (rd t213 1) = 3 then ((spoof_Find.f k (⟨#[112, 97, 121]⟩ : ByteArray) (([(⟨#[112, 97, 121]⟩ : ByteArray), (⟨#[112, 208, 176, 121]⟩ : ByteArray)] : List ByteArray))).bind fun t226 => (some (t226 == 1))) else (some false)) else (none)) else (some false)))) else (some false))) else (some false)) = some r := H
    have A8 := Aside0.mk A80
    clear A80
    by_cases c9 : t219 = true
    ·subst c9
     have H1 : ((spoof_Mixed.f k (⟨#[112, 208, 176, 121]⟩ : ByteArray)).bind fun t220 => (if t220 = true then ((spoof_Mixed.f k (⟨#[112, 97, 121]⟩ : ByteArray)).bind fun t221 => (if t221 = true then (some false) else (if (t213.length : Int) = 2 then (if 1 < (t213.length : Int) then (if (rd t213 1) = 3 then ((spoof_Find.f k (⟨#[112, 97, 121]⟩ : ByteArray) (([(⟨#[112, 97, 121]⟩ : ByteArray), (⟨#[112, 208, 176, 121]⟩ : ByteArray)] : List ByteArray))).bind fun t226 => (some (t226 == 1))) else (some false)) else (none)) else (some false)))) else (some false))) = some r := by rw [if_pos rfl] at H; exact H
     clear H
     have H := H1
     clear H1
     replace H := Option.bind_eq_some_iff.mp H
     obtain ⟨t220, A100, H⟩ := H
     replace H : (if t220 = true then ((spoof_Mixed.f k (⟨#[112, 97, 121]⟩ : ByteArray)).bind fun t221 => (if t221 = true then (some false) else (if (t213.length : Int) = 2 then (if 1 < (t213.length : Int) then (if (rd t213 1) = 3 then ((spoof_Find.f k (⟨#[112, 97, 121]⟩ : ByteArray) (([(⟨#[112, 97, 121]⟩ : ByteArray), (⟨#[112, 208, 176, 121]⟩ : ByteArray)] : List ByteArray))).bind fun t226 => (some (t226 == 1))) else (some false)) else (none)) else (some false)))) else (some false)) = some r := H
     have A10 := Aside0.mk A100
     clear A100
     by_cases c11 : t220 = true
     ·subst c11
      have H1 : ((spoof_Mixed.f k (⟨#[112, 97, 121]⟩ : ByteArray)).bind fun t221 => (if t221 = true then (some false) else (if (t213.length : Int) = 2 then (if 1 < (t213.length : Int) then (if (rd t213 1) = 3 then ((spoof_Find.f k (⟨#[112, 97, 121]⟩ : ByteArray) (([(⟨#[112, 97, 121]⟩ : ByteArray), (⟨#[112, 208, 176, 121]⟩ : ByteArray)] : List ByteArray))).bind fun t226 => (some (t226 == 1))) else (some false)) else (none)) else (some false)))) = some r := by rw [if_pos rfl] at H; exact H
      clear H
      have H := H1
      clear H1
      replace H := Option.bind_eq_some_iff.mp H
      obtain ⟨t221, A120, H⟩ := H
      replace H : (if t221 = true then (some false) else (if (t213.length : Int) = 2 then (if 1 < (t213.length : Int) then (if (rd t213 1) = 3 then ((spoof_Find.f k (⟨#[112, 97, 121]⟩ : ByteArray) (([(⟨#[112, 97, 121]⟩ : ByteArray), (⟨#[112, 208, 176, 121]⟩ : ByteArray)] : List ByteArray))).bind fun t226 => (some (t226 == 1))) else (some false)) else (none)) else (some false))) = some r := H
      have A12 := Aside0.mk A120
      clear A120
      by_cases c13 : t221 = true
      ·subst c13
       have H1 : (some false) = some r := by rw [if_pos rfl] at H; exact H
       clear H
       have H := H1
       clear H1
       obtain rfl := Option.some.inj H
       go_enter Try.func6, Try.ntmps6
       go_wp2_with (first | ((with_reducible refine gate_callee (f := 18) rfl ?_); refine goesL_ (some 2) rfl rfl Try.func18 (by kernel_rfl) rfl #[.string (⟨#[112, 208, 176, 121]⟩ : ByteArray)] rfl zl ?_; (with_reducible refine (spoof_Scripts.calls k (⟨#[112, 208, 176, 121]⟩ : ByteArray) t213 _ A1.out).mono ?_); rintro e w14 ⟨v214, rfl, ho0, hb⟩; refine ⟨_, rfl, ?_⟩; have n0_ := Aside0.mk (Kd.R_lower ho0 (below_size zb)); have n1_ := Aside0.mk (below_step zb hb); clear HB; have HO215 := n0_; have HB := n1_; clear n0_ n1_; (try clear hb); (try clear hb2); (try clear hk); (try clear hi); (try clear ho0)) | ((with_reducible refine gate_callee (f := 7) rfl ?_); refine goesL_ (some 3) rfl rfl Try.func7 (by kernel_rfl) rfl #[.string (⟨#[97, 226, 128, 174, 98, 27]⟩ : ByteArray)] rfl zl ?_; (with_reducible refine (spoof_Strip.calls k (⟨#[97, 226, 128, 174, 98, 27]⟩ : ByteArray) t216 _ A2.out).mono ?_); rintro e w15 ⟨rfl, hb⟩; refine ⟨_, rfl, ?_⟩; have n0_ := Aside0.mk (Kd.R_below (zk HO215.out) hb); have n1_ := Aside0.mk (below_step zb hb); clear HO215; clear HB; have HO215 := n0_; have HB := n1_; clear n0_ n1_; (try clear hb); (try clear hb2); (try clear hk); (try clear hi)) | (go_at_call 8; (with_reducible refine (spoof_Tell.calls k (⟨#[97, 27]⟩ : ByteArray) t217 _ A4.out).mono ?_); rintro e w16 ⟨rfl, hb⟩; have n0_ := Aside0.mk (Kd.R_below (zk HO215.out) hb); have n1_ := Aside0.mk (below_step zb hb); clear HO215; clear HB; have HO215 := n0_; have HB := n1_; clear n0_ n1_; (try clear hb); (try clear hb2); (try clear hk); (try clear hi)) | (go_at_call 9; (with_reducible refine (spoof_Fold.calls k (⟨#[112, 208, 176, 121]⟩ : ByteArray) t218 _ A6.out).mono ?_); rintro e w17 ⟨rfl, hb⟩; have n0_ := Aside0.mk (Kd.R_below (zk HO215.out) hb); have n1_ := Aside0.mk (below_step zb hb); clear HO215; clear HB; have HO215 := n0_; have HB := n1_; clear n0_ n1_; (try clear hb); (try clear hb2); (try clear hk); (try clear hi)) | (go_at_call 15; (with_reducible refine (spoof_Alike.calls k (⟨#[112, 208, 176, 121]⟩ : ByteArray) (⟨#[112, 97, 121]⟩ : ByteArray) true _ A8.out).mono ?_); rintro e w18 ⟨rfl, hb⟩; have n0_ := Aside0.mk (Kd.R_below (zk HO215.out) hb); have n1_ := Aside0.mk (below_step zb hb); clear HO215; clear HB; have HO215 := n0_; have HB := n1_; clear n0_ n1_; (try clear hb); (try clear hb2); (try clear hk); (try clear hi)) | (go_at_call 19; (with_reducible refine (spoof_Mixed.calls k (⟨#[112, 208, 176, 121]⟩ : ByteArray) true _ A10.out).mono ?_); rintro e w19 ⟨rfl, hb⟩; have n0_ := Aside0.mk (Kd.R_below (zk HO215.out) hb); have n1_ := Aside0.mk (below_step zb hb); clear HO215; clear HB; have HO215 := n0_; have HB := n1_; clear n0_ n1_; (try clear hb); (try clear hb2); (try clear hk); (try clear hi)) | (go_at_call 19; (with_reducible refine (spoof_Mixed.calls k (⟨#[112, 97, 121]⟩ : ByteArray) true _ A12.out).mono ?_); rintro e w20 ⟨rfl, hb⟩; have n0_ := Aside0.mk (Kd.R_below (zk HO215.out) hb); have n1_ := Aside0.mk (below_step zb hb); clear HO215; clear HB; have HO215 := n0_; have HB := n1_; clear n0_ n1_; (try clear hb); (try clear hb2); (try clear hk); (try clear hi)))
       go_ret
       exact ⟨zr, zb⟩
      ·replace c13 := Bool.eq_false_iff.mpr c13
       subst c13
       have H1 : (if (t213.length : Int) = 2 then (if 1 < (t213.length : Int) then (if (rd t213 1) = 3 then ((spoof_Find.f k (⟨#[112, 97, 121]⟩ : ByteArray) (([(⟨#[112, 97, 121]⟩ : ByteArray), (⟨#[112, 208, 176, 121]⟩ : ByteArray)] : List ByteArray))).bind fun t226 => (some (t226 == 1))) else (some false)) else (none)) else (some false)) = some r := by rw [if_neg (show ¬ (false = true) by decide)] at H; exact H
       clear H
       have H := H1
       clear H1
       by_cases c21 : (t213.length : Int) = 2
       ·rw [if_pos c21] at H
        have c21b0 : ((t213.length : Int) == 2) = true := beq_iff_eq.mpr c21
        have c21b1 : ((t213.length : Int) != 2) = false := bne_eq_false_iff_eq.mpr c21
        clear c21
        by_cases c22 : 1 < (t213.length : Int)
        ·rw [if_pos c22] at H
         have c22b0 : decide (1 < (t213.length : Int)) = true := decide_eq_true c22
         have c22b1 : decide (1 < t213.length) = true := decide_eq_true (by omega)
         clear c22
         by_cases c23 : (rd t213 1) = 3
         ·rw [if_pos c23] at H
          have c23b0 : ((rd t213 1) == 3) = true := beq_iff_eq.mpr c23
          have c23b1 : ((rd t213 1) != 3) = false := bne_eq_false_iff_eq.mpr c23
          clear c23
          obtain ⟨y223, hy223⟩ : ∃ y_ : List ByteArray, y_ = (([(⟨#[112, 97, 121]⟩ : ByteArray), (⟨#[112, 208, 176, 121]⟩ : ByteArray)] : List ByteArray)) := ⟨_, rfl⟩
          replace H : ((spoof_Find.f k (⟨#[112, 97, 121]⟩ : ByteArray) y223).bind fun t226 => (some (t226 == 1))) = some r := by first | (rw [hy223]; with_reducible exact H) | (have H2_ := (Option.bind_some _ _).symm.trans H; rw [hy223]; with_reducible exact H2_) | (have H2_ := (Option.bind_some _ _).symm.trans H; with_reducible exact H2_) | with_reducible exact H | (rw [hy223]; exact H) | exact H
          have Ny223 := Aside0.mk hy223
          clear hy223
          replace H := Option.bind_eq_some_iff.mp H
          obtain ⟨t226, A240, H⟩ := H
          replace H : (some (t226 == 1)) = some r := H
          have A24 := Aside0.mk A240
          clear A240
          obtain rfl := Option.some.inj H
          go_enter Try.func6, Try.ntmps6
          go_wp2_with (first | ((with_reducible refine gate_callee (f := 18) rfl ?_); refine goesL_ (some 2) rfl rfl Try.func18 (by kernel_rfl) rfl #[.string (⟨#[112, 208, 176, 121]⟩ : ByteArray)] rfl zl ?_; (with_reducible refine (spoof_Scripts.calls k (⟨#[112, 208, 176, 121]⟩ : ByteArray) t213 _ A1.out).mono ?_); rintro e w25 ⟨v214, rfl, ho0, hb⟩; refine ⟨_, rfl, ?_⟩; have n0_ := Aside0.mk (Kd.R_lower ho0 (below_size zb)); have n1_ := Aside0.mk (below_step zb hb); clear HB; have HO215 := n0_; have HB := n1_; clear n0_ n1_; (try clear hb); (try clear hb2); (try clear hk); (try clear hi); (try clear ho0)) | ((with_reducible refine gate_callee (f := 7) rfl ?_); refine goesL_ (some 3) rfl rfl Try.func7 (by kernel_rfl) rfl #[.string (⟨#[97, 226, 128, 174, 98, 27]⟩ : ByteArray)] rfl zl ?_; (with_reducible refine (spoof_Strip.calls k (⟨#[97, 226, 128, 174, 98, 27]⟩ : ByteArray) t216 _ A2.out).mono ?_); rintro e w26 ⟨rfl, hb⟩; refine ⟨_, rfl, ?_⟩; have n0_ := Aside0.mk (Kd.R_below (zk HO215.out) hb); have n1_ := Aside0.mk (below_step zb hb); clear HO215; clear HB; have HO215 := n0_; have HB := n1_; clear n0_ n1_; (try clear hb); (try clear hb2); (try clear hk); (try clear hi)) | (go_at_call 8; (with_reducible refine (spoof_Tell.calls k (⟨#[97, 27]⟩ : ByteArray) t217 _ A4.out).mono ?_); rintro e w27 ⟨rfl, hb⟩; have n0_ := Aside0.mk (Kd.R_below (zk HO215.out) hb); have n1_ := Aside0.mk (below_step zb hb); clear HO215; clear HB; have HO215 := n0_; have HB := n1_; clear n0_ n1_; (try clear hb); (try clear hb2); (try clear hk); (try clear hi)) | (go_at_call 9; (with_reducible refine (spoof_Fold.calls k (⟨#[112, 208, 176, 121]⟩ : ByteArray) t218 _ A6.out).mono ?_); rintro e w28 ⟨rfl, hb⟩; have n0_ := Aside0.mk (Kd.R_below (zk HO215.out) hb); have n1_ := Aside0.mk (below_step zb hb); clear HO215; clear HB; have HO215 := n0_; have HB := n1_; clear n0_ n1_; (try clear hb); (try clear hb2); (try clear hk); (try clear hi)) | (go_at_call 15; (with_reducible refine (spoof_Alike.calls k (⟨#[112, 208, 176, 121]⟩ : ByteArray) (⟨#[112, 97, 121]⟩ : ByteArray) true _ A8.out).mono ?_); rintro e w29 ⟨rfl, hb⟩; have n0_ := Aside0.mk (Kd.R_below (zk HO215.out) hb); have n1_ := Aside0.mk (below_step zb hb); clear HO215; clear HB; have HO215 := n0_; have HB := n1_; clear n0_ n1_; (try clear hb); (try clear hb2); (try clear hk); (try clear hi)) | (go_at_call 19; (with_reducible refine (spoof_Mixed.calls k (⟨#[112, 208, 176, 121]⟩ : ByteArray) true _ A10.out).mono ?_); rintro e w30 ⟨rfl, hb⟩; have n0_ := Aside0.mk (Kd.R_below (zk HO215.out) hb); have n1_ := Aside0.mk (below_step zb hb); clear HO215; clear HB; have HO215 := n0_; have HB := n1_; clear n0_ n1_; (try clear hb); (try clear hb2); (try clear hk); (try clear hi)) | (go_at_call 19; (with_reducible refine (spoof_Mixed.calls k (⟨#[112, 97, 121]⟩ : ByteArray) false _ A12.out).mono ?_); rintro e w31 ⟨rfl, hb⟩; have n0_ := Aside0.mk (Kd.R_below (zk HO215.out) hb); have n1_ := Aside0.mk (below_step zb hb); clear HO215; clear HB; have HO215 := n0_; have HB := n1_; clear n0_ n1_; (try clear hb); (try clear hb2); (try clear hk); (try clear hi); obtain ⟨Ao32, co32, eo32⟩ := Kd.R_slice HO215.out; subst eo32; have p222 : 0 ≤ (1 : Int) := (by omega); have q222 : 1 < (t213.length : Int) := of_decide_eq_true za; obtain ⟨ad222, e222, hx222_0⟩ := Kd.at_int (Kd.R_reads' HO215.out).2.2 1 p222 q222; cases e222; (try simp only [show (1 : Int).toNat = 1 from rfl, Nat.reduceMul, Nat.reduceEqDiff, Go.Addr.add, ↓reduceIte] at hx222_0); have qi222 : (1 < t213.length) = True := eq_true (by omega); (try rw [show ((1 : Int)).toNat = 1 from rfl] at hx222_0); replace p222 := eq_true p222; replace q222 := eq_true q222) | ((with_reducible refine gate_dst (N := 35) rfl ?_); (try (refine gate_guard (by rfl) ?_; dsimp only)); refine Kd.R_lit Kd.string _ 9 ?hg (N := 35) ?hd (xs := ([(⟨#[112, 97, 121]⟩ : ByteArray), (⟨#[112, 208, 176, 121]⟩ : ByteArray)] : List ByteArray)) (inner := [.string (⟨#[112, 97, 121]⟩ : ByteArray), .string (⟨#[112, 208, 176, 121]⟩ : ByteArray)]) (ok := fun _ => True) (okp := fun _ => True) ?hr ?hp (fun _ hk => hk) trivial (Below.refl _ _) (Nat.le_refl _) (by simp) ?_; (case hd => rfl); (case hg => rfl); (case hr => first | (go_simp; done) | (go_simp; rfl)); (case hp => exact (Reps.one (show Kd.M Kd.string _ _ _ (⟨#[112, 97, 121]⟩ : ByteArray) [.string (⟨#[112, 97, 121]⟩ : ByteArray)] from rfl) (Reps.one (show Kd.M Kd.string _ _ _ (⟨#[112, 208, 176, 121]⟩ : ByteArray) [.string (⟨#[112, 208, 176, 121]⟩ : ByteArray)] from rfl) (Reps.none _ _)))); intro v224 w33 ho34 hb hg_ hnew_; clear hg_ hnew_; (first | rw [← Ny223.out] at ho34 | (simp only [Int.reduceToNat] at ho34; rw [← Ny223.out] at ho34)); have n0_ := Aside0.mk (Kd.R_below (zk HO215.out) hb); have n1_ := Aside0.mk (Kd.R_lower ho34 (below_size zb)); have n2_ := Aside0.mk (below_step zb hb); clear HO215; clear HB; have HO215 := n0_; have HO225 := n1_; have HB := n2_; clear n0_ n1_ n2_; clear hb ho34; obtain ⟨Ao35, co35, eo35⟩ := Kd.R_slice HO225.out; subst eo35) | (go_at_call 20; (with_reducible refine (spoof_Find.calls k (⟨#[112, 97, 121]⟩ : ByteArray) _ _ y223 t226 _ ?side1 ?side2 A24.out).mono ?_); (case side1 => repeat (first | exact (Kd.R_reads' HO225.out).2.2 | (with_reducible refine Kd.C_alloc ?_ _) | (with_reducible refine Kd.C_drewN ?_ _) | (with_reducible refine Kd.C_drew ?_))); (case side2 => exact (Kd.R_reads' HO225.out).2.1); rintro e w36 ⟨rfl, hb⟩; have n0_ := Aside0.mk (Kd.R_below (zk HO215.out) hb); have n1_ := Aside0.mk (Kd.R_below (zk HO225.out) hb); have n2_ := Aside0.mk (below_step zb hb); clear HO215; clear HO225; clear HB; have HO215 := n0_; have HO225 := n1_; have HB := n2_; clear n0_ n1_ n2_; (try clear hb); (try clear hb2); (try clear hk); (try clear hi)))
          go_ret
          exact ⟨zr, zb⟩
         ·rw [if_neg c23] at H
          have c23b0 : ((rd t213 1) == 3) = false := beq_eq_false_iff_ne.mpr c23
          have c23b1 : ((rd t213 1) != 3) = true := bne_iff_ne.mpr c23
          obtain rfl := Option.some.inj H
          go_enter Try.func6, Try.ntmps6
          go_wp2_with (first | ((with_reducible refine gate_callee (f := 18) rfl ?_); refine goesL_ (some 2) rfl rfl Try.func18 (by kernel_rfl) rfl #[.string (⟨#[112, 208, 176, 121]⟩ : ByteArray)] rfl zl ?_; (with_reducible refine (spoof_Scripts.calls k (⟨#[112, 208, 176, 121]⟩ : ByteArray) t213 _ A1.out).mono ?_); rintro e w37 ⟨v214, rfl, ho0, hb⟩; refine ⟨_, rfl, ?_⟩; have n0_ := Aside0.mk (Kd.R_lower ho0 (below_size zb)); have n1_ := Aside0.mk (below_step zb hb); clear HB; have HO215 := n0_; have HB := n1_; clear n0_ n1_; (try clear hb); (try clear hb2); (try clear hk); (try clear hi); (try clear ho0)) | ((with_reducible refine gate_callee (f := 7) rfl ?_); refine goesL_ (some 3) rfl rfl Try.func7 (by kernel_rfl) rfl #[.string (⟨#[97, 226, 128, 174, 98, 27]⟩ : ByteArray)] rfl zl ?_; (with_reducible refine (spoof_Strip.calls k (⟨#[97, 226, 128, 174, 98, 27]⟩ : ByteArray) t216 _ A2.out).mono ?_); rintro e w38 ⟨rfl, hb⟩; refine ⟨_, rfl, ?_⟩; have n0_ := Aside0.mk (Kd.R_below (zk HO215.out) hb); have n1_ := Aside0.mk (below_step zb hb); clear HO215; clear HB; have HO215 := n0_; have HB := n1_; clear n0_ n1_; (try clear hb); (try clear hb2); (try clear hk); (try clear hi)) | (go_at_call 8; (with_reducible refine (spoof_Tell.calls k (⟨#[97, 27]⟩ : ByteArray) t217 _ A4.out).mono ?_); rintro e w39 ⟨rfl, hb⟩; have n0_ := Aside0.mk (Kd.R_below (zk HO215.out) hb); have n1_ := Aside0.mk (below_step zb hb); clear HO215; clear HB; have HO215 := n0_; have HB := n1_; clear n0_ n1_; (try clear hb); (try clear hb2); (try clear hk); (try clear hi)) | (go_at_call 9; (with_reducible refine (spoof_Fold.calls k (⟨#[112, 208, 176, 121]⟩ : ByteArray) t218 _ A6.out).mono ?_); rintro e w40 ⟨rfl, hb⟩; have n0_ := Aside0.mk (Kd.R_below (zk HO215.out) hb); have n1_ := Aside0.mk (below_step zb hb); clear HO215; clear HB; have HO215 := n0_; have HB := n1_; clear n0_ n1_; (try clear hb); (try clear hb2); (try clear hk); (try clear hi)) | (go_at_call 15; (with_reducible refine (spoof_Alike.calls k (⟨#[112, 208, 176, 121]⟩ : ByteArray) (⟨#[112, 97, 121]⟩ : ByteArray) true _ A8.out).mono ?_); rintro e w41 ⟨rfl, hb⟩; have n0_ := Aside0.mk (Kd.R_below (zk HO215.out) hb); have n1_ := Aside0.mk (below_step zb hb); clear HO215; clear HB; have HO215 := n0_; have HB := n1_; clear n0_ n1_; (try clear hb); (try clear hb2); (try clear hk); (try clear hi)) | (go_at_call 19; (with_reducible refine (spoof_Mixed.calls k (⟨#[112, 208, 176, 121]⟩ : ByteArray) true _ A10.out).mono ?_); rintro e w42 ⟨rfl, hb⟩; have n0_ := Aside0.mk (Kd.R_below (zk HO215.out) hb); have n1_ := Aside0.mk (below_step zb hb); clear HO215; clear HB; have HO215 := n0_; have HB := n1_; clear n0_ n1_; (try clear hb); (try clear hb2); (try clear hk); (try clear hi)) | (go_at_call 19; (with_reducible refine (spoof_Mixed.calls k (⟨#[112, 97, 121]⟩ : ByteArray) false _ A12.out).mono ?_); rintro e w43 ⟨rfl, hb⟩; have n0_ := Aside0.mk (Kd.R_below (zk HO215.out) hb); have n1_ := Aside0.mk (below_step zb hb); clear HO215; clear HB; have HO215 := n0_; have HB := n1_; clear n0_ n1_; (try clear hb); (try clear hb2); (try clear hk); (try clear hi); obtain ⟨Ao44, co44, eo44⟩ := Kd.R_slice HO215.out; subst eo44; have p222 : 0 ≤ (1 : Int) := (by omega); have q222 : 1 < (t213.length : Int) := of_decide_eq_true za; obtain ⟨ad222, e222, hx222_0⟩ := Kd.at_int (Kd.R_reads' HO215.out).2.2 1 p222 q222; cases e222; (try simp only [show (1 : Int).toNat = 1 from rfl, Nat.reduceMul, Nat.reduceEqDiff, Go.Addr.add, ↓reduceIte] at hx222_0); have qi222 : (1 < t213.length) = True := eq_true (by omega); (try rw [show ((1 : Int)).toNat = 1 from rfl] at hx222_0); replace p222 := eq_true p222; replace q222 := eq_true q222))
          go_ret
          exact ⟨zr, zb⟩
        ·rw [if_neg c22] at H
         exact absurd H (by simp)
       ·rw [if_neg c21] at H
        have c21b0 : ((t213.length : Int) == 2) = false := beq_eq_false_iff_ne.mpr c21
        have c21b1 : ((t213.length : Int) != 2) = true := bne_iff_ne.mpr c21
        obtain rfl := Option.some.inj H
        go_enter Try.func6, Try.ntmps6
        go_wp2_with (first | ((with_reducible refine gate_callee (f := 18) rfl ?_); refine goesL_ (some 2) rfl rfl Try.func18 (by kernel_rfl) rfl #[.string (⟨#[112, 208, 176, 121]⟩ : ByteArray)] rfl zl ?_; (with_reducible refine (spoof_Scripts.calls k (⟨#[112, 208, 176, 121]⟩ : ByteArray) t213 _ A1.out).mono ?_); rintro e w45 ⟨v214, rfl, ho0, hb⟩; refine ⟨_, rfl, ?_⟩; have n0_ := Aside0.mk (Kd.R_lower ho0 (below_size zb)); have n1_ := Aside0.mk (below_step zb hb); clear HB; have HO215 := n0_; have HB := n1_; clear n0_ n1_; (try clear hb); (try clear hb2); (try clear hk); (try clear hi); (try clear ho0)) | ((with_reducible refine gate_callee (f := 7) rfl ?_); refine goesL_ (some 3) rfl rfl Try.func7 (by kernel_rfl) rfl #[.string (⟨#[97, 226, 128, 174, 98, 27]⟩ : ByteArray)] rfl zl ?_; (with_reducible refine (spoof_Strip.calls k (⟨#[97, 226, 128, 174, 98, 27]⟩ : ByteArray) t216 _ A2.out).mono ?_); rintro e w46 ⟨rfl, hb⟩; refine ⟨_, rfl, ?_⟩; have n0_ := Aside0.mk (Kd.R_below (zk HO215.out) hb); have n1_ := Aside0.mk (below_step zb hb); clear HO215; clear HB; have HO215 := n0_; have HB := n1_; clear n0_ n1_; (try clear hb); (try clear hb2); (try clear hk); (try clear hi)) | (go_at_call 8; (with_reducible refine (spoof_Tell.calls k (⟨#[97, 27]⟩ : ByteArray) t217 _ A4.out).mono ?_); rintro e w47 ⟨rfl, hb⟩; have n0_ := Aside0.mk (Kd.R_below (zk HO215.out) hb); have n1_ := Aside0.mk (below_step zb hb); clear HO215; clear HB; have HO215 := n0_; have HB := n1_; clear n0_ n1_; (try clear hb); (try clear hb2); (try clear hk); (try clear hi)) | (go_at_call 9; (with_reducible refine (spoof_Fold.calls k (⟨#[112, 208, 176, 121]⟩ : ByteArray) t218 _ A6.out).mono ?_); rintro e w48 ⟨rfl, hb⟩; have n0_ := Aside0.mk (Kd.R_below (zk HO215.out) hb); have n1_ := Aside0.mk (below_step zb hb); clear HO215; clear HB; have HO215 := n0_; have HB := n1_; clear n0_ n1_; (try clear hb); (try clear hb2); (try clear hk); (try clear hi)) | (go_at_call 15; (with_reducible refine (spoof_Alike.calls k (⟨#[112, 208, 176, 121]⟩ : ByteArray) (⟨#[112, 97, 121]⟩ : ByteArray) true _ A8.out).mono ?_); rintro e w49 ⟨rfl, hb⟩; have n0_ := Aside0.mk (Kd.R_below (zk HO215.out) hb); have n1_ := Aside0.mk (below_step zb hb); clear HO215; clear HB; have HO215 := n0_; have HB := n1_; clear n0_ n1_; (try clear hb); (try clear hb2); (try clear hk); (try clear hi)) | (go_at_call 19; (with_reducible refine (spoof_Mixed.calls k (⟨#[112, 208, 176, 121]⟩ : ByteArray) true _ A10.out).mono ?_); rintro e w50 ⟨rfl, hb⟩; have n0_ := Aside0.mk (Kd.R_below (zk HO215.out) hb); have n1_ := Aside0.mk (below_step zb hb); clear HO215; clear HB; have HO215 := n0_; have HB := n1_; clear n0_ n1_; (try clear hb); (try clear hb2); (try clear hk); (try clear hi)) | (go_at_call 19; (with_reducible refine (spoof_Mixed.calls k (⟨#[112, 97, 121]⟩ : ByteArray) false _ A12.out).mono ?_); rintro e w51 ⟨rfl, hb⟩; have n0_ := Aside0.mk (Kd.R_below (zk HO215.out) hb); have n1_ := Aside0.mk (below_step zb hb); clear HO215; clear HB; have HO215 := n0_; have HB := n1_; clear n0_ n1_; (try clear hb); (try clear hb2); (try clear hk); (try clear hi); obtain ⟨Ao52, co52, eo52⟩ := Kd.R_slice HO215.out; subst eo52))
        go_ret
        exact ⟨zr, zb⟩
     ·replace c11 := Bool.eq_false_iff.mpr c11
      subst c11
      have H1 : (some false) = some r := by rw [if_neg (show ¬ (false = true) by decide)] at H; exact H
      clear H
      have H := H1
      clear H1
      obtain rfl := Option.some.inj H
      go_enter Try.func6, Try.ntmps6
      go_wp2_with (first | ((with_reducible refine gate_callee (f := 18) rfl ?_); refine goesL_ (some 2) rfl rfl Try.func18 (by kernel_rfl) rfl #[.string (⟨#[112, 208, 176, 121]⟩ : ByteArray)] rfl zl ?_; (with_reducible refine (spoof_Scripts.calls k (⟨#[112, 208, 176, 121]⟩ : ByteArray) t213 _ A1.out).mono ?_); rintro e w53 ⟨v214, rfl, ho0, hb⟩; refine ⟨_, rfl, ?_⟩; have n0_ := Aside0.mk (Kd.R_lower ho0 (below_size zb)); have n1_ := Aside0.mk (below_step zb hb); clear HB; have HO215 := n0_; have HB := n1_; clear n0_ n1_; (try clear hb); (try clear hb2); (try clear hk); (try clear hi); (try clear ho0)) | ((with_reducible refine gate_callee (f := 7) rfl ?_); refine goesL_ (some 3) rfl rfl Try.func7 (by kernel_rfl) rfl #[.string (⟨#[97, 226, 128, 174, 98, 27]⟩ : ByteArray)] rfl zl ?_; (with_reducible refine (spoof_Strip.calls k (⟨#[97, 226, 128, 174, 98, 27]⟩ : ByteArray) t216 _ A2.out).mono ?_); rintro e w54 ⟨rfl, hb⟩; refine ⟨_, rfl, ?_⟩; have n0_ := Aside0.mk (Kd.R_below (zk HO215.out) hb); have n1_ := Aside0.mk (below_step zb hb); clear HO215; clear HB; have HO215 := n0_; have HB := n1_; clear n0_ n1_; (try clear hb); (try clear hb2); (try clear hk); (try clear hi)) | (go_at_call 8; (with_reducible refine (spoof_Tell.calls k (⟨#[97, 27]⟩ : ByteArray) t217 _ A4.out).mono ?_); rintro e w55 ⟨rfl, hb⟩; have n0_ := Aside0.mk (Kd.R_below (zk HO215.out) hb); have n1_ := Aside0.mk (below_step zb hb); clear HO215; clear HB; have HO215 := n0_; have HB := n1_; clear n0_ n1_; (try clear hb); (try clear hb2); (try clear hk); (try clear hi)) | (go_at_call 9; (with_reducible refine (spoof_Fold.calls k (⟨#[112, 208, 176, 121]⟩ : ByteArray) t218 _ A6.out).mono ?_); rintro e w56 ⟨rfl, hb⟩; have n0_ := Aside0.mk (Kd.R_below (zk HO215.out) hb); have n1_ := Aside0.mk (below_step zb hb); clear HO215; clear HB; have HO215 := n0_; have HB := n1_; clear n0_ n1_; (try clear hb); (try clear hb2); (try clear hk); (try clear hi)) | (go_at_call 15; (with_reducible refine (spoof_Alike.calls k (⟨#[112, 208, 176, 121]⟩ : ByteArray) (⟨#[112, 97, 121]⟩ : ByteArray) true _ A8.out).mono ?_); rintro e w57 ⟨rfl, hb⟩; have n0_ := Aside0.mk (Kd.R_below (zk HO215.out) hb); have n1_ := Aside0.mk (below_step zb hb); clear HO215; clear HB; have HO215 := n0_; have HB := n1_; clear n0_ n1_; (try clear hb); (try clear hb2); (try clear hk); (try clear hi)) | (go_at_call 19; (with_reducible refine (spoof_Mixed.calls k (⟨#[112, 208, 176, 121]⟩ : ByteArray) false _ A10.out).mono ?_); rintro e w58 ⟨rfl, hb⟩; have n0_ := Aside0.mk (Kd.R_below (zk HO215.out) hb); have n1_ := Aside0.mk (below_step zb hb); clear HO215; clear HB; have HO215 := n0_; have HB := n1_; clear n0_ n1_; (try clear hb); (try clear hb2); (try clear hk); (try clear hi)))
      go_ret
      exact ⟨zr, zb⟩
    ·replace c9 := Bool.eq_false_iff.mpr c9
     subst c9
     have H1 : (some false) = some r := by rw [if_neg (show ¬ (false = true) by decide)] at H; exact H
     clear H
     have H := H1
     clear H1
     obtain rfl := Option.some.inj H
     go_enter Try.func6, Try.ntmps6
     go_wp2_with (first | ((with_reducible refine gate_callee (f := 18) rfl ?_); refine goesL_ (some 2) rfl rfl Try.func18 (by kernel_rfl) rfl #[.string (⟨#[112, 208, 176, 121]⟩ : ByteArray)] rfl zl ?_; (with_reducible refine (spoof_Scripts.calls k (⟨#[112, 208, 176, 121]⟩ : ByteArray) t213 _ A1.out).mono ?_); rintro e w59 ⟨v214, rfl, ho0, hb⟩; refine ⟨_, rfl, ?_⟩; have n0_ := Aside0.mk (Kd.R_lower ho0 (below_size zb)); have n1_ := Aside0.mk (below_step zb hb); clear HB; have HO215 := n0_; have HB := n1_; clear n0_ n1_; (try clear hb); (try clear hb2); (try clear hk); (try clear hi); (try clear ho0)) | ((with_reducible refine gate_callee (f := 7) rfl ?_); refine goesL_ (some 3) rfl rfl Try.func7 (by kernel_rfl) rfl #[.string (⟨#[97, 226, 128, 174, 98, 27]⟩ : ByteArray)] rfl zl ?_; (with_reducible refine (spoof_Strip.calls k (⟨#[97, 226, 128, 174, 98, 27]⟩ : ByteArray) t216 _ A2.out).mono ?_); rintro e w60 ⟨rfl, hb⟩; refine ⟨_, rfl, ?_⟩; have n0_ := Aside0.mk (Kd.R_below (zk HO215.out) hb); have n1_ := Aside0.mk (below_step zb hb); clear HO215; clear HB; have HO215 := n0_; have HB := n1_; clear n0_ n1_; (try clear hb); (try clear hb2); (try clear hk); (try clear hi)) | (go_at_call 8; (with_reducible refine (spoof_Tell.calls k (⟨#[97, 27]⟩ : ByteArray) t217 _ A4.out).mono ?_); rintro e w61 ⟨rfl, hb⟩; have n0_ := Aside0.mk (Kd.R_below (zk HO215.out) hb); have n1_ := Aside0.mk (below_step zb hb); clear HO215; clear HB; have HO215 := n0_; have HB := n1_; clear n0_ n1_; (try clear hb); (try clear hb2); (try clear hk); (try clear hi)) | (go_at_call 9; (with_reducible refine (spoof_Fold.calls k (⟨#[112, 208, 176, 121]⟩ : ByteArray) t218 _ A6.out).mono ?_); rintro e w62 ⟨rfl, hb⟩; have n0_ := Aside0.mk (Kd.R_below (zk HO215.out) hb); have n1_ := Aside0.mk (below_step zb hb); clear HO215; clear HB; have HO215 := n0_; have HB := n1_; clear n0_ n1_; (try clear hb); (try clear hb2); (try clear hk); (try clear hi)) | (go_at_call 15; (with_reducible refine (spoof_Alike.calls k (⟨#[112, 208, 176, 121]⟩ : ByteArray) (⟨#[112, 97, 121]⟩ : ByteArray) false _ A8.out).mono ?_); rintro e w63 ⟨rfl, hb⟩; have n0_ := Aside0.mk (Kd.R_below (zk HO215.out) hb); have n1_ := Aside0.mk (below_step zb hb); clear HO215; clear HB; have HO215 := n0_; have HB := n1_; clear n0_ n1_; (try clear hb); (try clear hb2); (try clear hk); (try clear hi)))
     go_ret
     exact ⟨zr, zb⟩
   ·rw [if_neg c7] at H
    have c7b0 : (t218.toList == ([112, 97, 121] : List UInt8)) = false := beq_eq_false_iff_ne.mpr c7
    have c7b1 : (t218.toList != ([112, 97, 121] : List UInt8)) = true := bne_iff_ne.mpr c7
    obtain rfl := Option.some.inj H
    go_enter Try.func6, Try.ntmps6
    go_wp2_with (first | ((with_reducible refine gate_callee (f := 18) rfl ?_); refine goesL_ (some 2) rfl rfl Try.func18 (by kernel_rfl) rfl #[.string (⟨#[112, 208, 176, 121]⟩ : ByteArray)] rfl zl ?_; (with_reducible refine (spoof_Scripts.calls k (⟨#[112, 208, 176, 121]⟩ : ByteArray) t213 _ A1.out).mono ?_); rintro e w64 ⟨v214, rfl, ho0, hb⟩; refine ⟨_, rfl, ?_⟩; have n0_ := Aside0.mk (Kd.R_lower ho0 (below_size zb)); have n1_ := Aside0.mk (below_step zb hb); clear HB; have HO215 := n0_; have HB := n1_; clear n0_ n1_; (try clear hb); (try clear hb2); (try clear hk); (try clear hi); (try clear ho0)) | ((with_reducible refine gate_callee (f := 7) rfl ?_); refine goesL_ (some 3) rfl rfl Try.func7 (by kernel_rfl) rfl #[.string (⟨#[97, 226, 128, 174, 98, 27]⟩ : ByteArray)] rfl zl ?_; (with_reducible refine (spoof_Strip.calls k (⟨#[97, 226, 128, 174, 98, 27]⟩ : ByteArray) t216 _ A2.out).mono ?_); rintro e w65 ⟨rfl, hb⟩; refine ⟨_, rfl, ?_⟩; have n0_ := Aside0.mk (Kd.R_below (zk HO215.out) hb); have n1_ := Aside0.mk (below_step zb hb); clear HO215; clear HB; have HO215 := n0_; have HB := n1_; clear n0_ n1_; (try clear hb); (try clear hb2); (try clear hk); (try clear hi)) | (go_at_call 8; (with_reducible refine (spoof_Tell.calls k (⟨#[97, 27]⟩ : ByteArray) t217 _ A4.out).mono ?_); rintro e w66 ⟨rfl, hb⟩; have n0_ := Aside0.mk (Kd.R_below (zk HO215.out) hb); have n1_ := Aside0.mk (below_step zb hb); clear HO215; clear HB; have HO215 := n0_; have HB := n1_; clear n0_ n1_; (try clear hb); (try clear hb2); (try clear hk); (try clear hi)) | (go_at_call 9; (with_reducible refine (spoof_Fold.calls k (⟨#[112, 208, 176, 121]⟩ : ByteArray) t218 _ A6.out).mono ?_); rintro e w67 ⟨rfl, hb⟩; have n0_ := Aside0.mk (Kd.R_below (zk HO215.out) hb); have n1_ := Aside0.mk (below_step zb hb); clear HO215; clear HB; have HO215 := n0_; have HB := n1_; clear n0_ n1_; (try clear hb); (try clear hb2); (try clear hk); (try clear hi)))
    go_ret
    exact ⟨zr, zb⟩
  ·rw [if_neg c5] at H
   have c5b0 : (t217.toList == ([97, 94, 91] : List UInt8)) = false := beq_eq_false_iff_ne.mpr c5
   have c5b1 : (t217.toList != ([97, 94, 91] : List UInt8)) = true := bne_iff_ne.mpr c5
   obtain rfl := Option.some.inj H
   go_enter Try.func6, Try.ntmps6
   go_wp2_with (first | ((with_reducible refine gate_callee (f := 18) rfl ?_); refine goesL_ (some 2) rfl rfl Try.func18 (by kernel_rfl) rfl #[.string (⟨#[112, 208, 176, 121]⟩ : ByteArray)] rfl zl ?_; (with_reducible refine (spoof_Scripts.calls k (⟨#[112, 208, 176, 121]⟩ : ByteArray) t213 _ A1.out).mono ?_); rintro e w68 ⟨v214, rfl, ho0, hb⟩; refine ⟨_, rfl, ?_⟩; have n0_ := Aside0.mk (Kd.R_lower ho0 (below_size zb)); have n1_ := Aside0.mk (below_step zb hb); clear HB; have HO215 := n0_; have HB := n1_; clear n0_ n1_; (try clear hb); (try clear hb2); (try clear hk); (try clear hi); (try clear ho0)) | ((with_reducible refine gate_callee (f := 7) rfl ?_); refine goesL_ (some 3) rfl rfl Try.func7 (by kernel_rfl) rfl #[.string (⟨#[97, 226, 128, 174, 98, 27]⟩ : ByteArray)] rfl zl ?_; (with_reducible refine (spoof_Strip.calls k (⟨#[97, 226, 128, 174, 98, 27]⟩ : ByteArray) t216 _ A2.out).mono ?_); rintro e w69 ⟨rfl, hb⟩; refine ⟨_, rfl, ?_⟩; have n0_ := Aside0.mk (Kd.R_below (zk HO215.out) hb); have n1_ := Aside0.mk (below_step zb hb); clear HO215; clear HB; have HO215 := n0_; have HB := n1_; clear n0_ n1_; (try clear hb); (try clear hb2); (try clear hk); (try clear hi)) | (go_at_call 8; (with_reducible refine (spoof_Tell.calls k (⟨#[97, 27]⟩ : ByteArray) t217 _ A4.out).mono ?_); rintro e w70 ⟨rfl, hb⟩; have n0_ := Aside0.mk (Kd.R_below (zk HO215.out) hb); have n1_ := Aside0.mk (below_step zb hb); clear HO215; clear HB; have HO215 := n0_; have HB := n1_; clear n0_ n1_; (try clear hb); (try clear hb2); (try clear hk); (try clear hi)))
   go_ret
   exact ⟨zr, zb⟩
 ·rw [if_neg c3] at H
  have c3b0 : (t216.toList == ([97, 98] : List UInt8)) = false := beq_eq_false_iff_ne.mpr c3
  have c3b1 : (t216.toList != ([97, 98] : List UInt8)) = true := bne_iff_ne.mpr c3
  obtain rfl := Option.some.inj H
  go_enter Try.func6, Try.ntmps6
  go_wp2_with (first | ((with_reducible refine gate_callee (f := 18) rfl ?_); refine goesL_ (some 2) rfl rfl Try.func18 (by kernel_rfl) rfl #[.string (⟨#[112, 208, 176, 121]⟩ : ByteArray)] rfl zl ?_; (with_reducible refine (spoof_Scripts.calls k (⟨#[112, 208, 176, 121]⟩ : ByteArray) t213 _ A1.out).mono ?_); rintro e w71 ⟨v214, rfl, ho0, hb⟩; refine ⟨_, rfl, ?_⟩; have n0_ := Aside0.mk (Kd.R_lower ho0 (below_size zb)); have n1_ := Aside0.mk (below_step zb hb); clear HB; have HO215 := n0_; have HB := n1_; clear n0_ n1_; (try clear hb); (try clear hb2); (try clear hk); (try clear hi); (try clear ho0)) | ((with_reducible refine gate_callee (f := 7) rfl ?_); refine goesL_ (some 3) rfl rfl Try.func7 (by kernel_rfl) rfl #[.string (⟨#[97, 226, 128, 174, 98, 27]⟩ : ByteArray)] rfl zl ?_; (with_reducible refine (spoof_Strip.calls k (⟨#[97, 226, 128, 174, 98, 27]⟩ : ByteArray) t216 _ A2.out).mono ?_); rintro e w72 ⟨rfl, hb⟩; refine ⟨_, rfl, ?_⟩; have n0_ := Aside0.mk (Kd.R_below (zk HO215.out) hb); have n1_ := Aside0.mk (below_step zb hb); clear HO215; clear HB; have HO215 := n0_; have HB := n1_; clear n0_ n1_; (try clear hb); (try clear hb2); (try clear hk); (try clear hi)))
  go_ret
  exact ⟨zr, zb⟩

/-! ### dactylref02_Size: function 53 -/
mutual
def dactylref02_Size.j0 : Nat → Int → Bool → Option (Int)
 | 0, _, _ => none
 | k + 1, x0, x10 => if x10 = true then (some 2) else (if x0 ≥ 224 then (dactylref02_Size.j1 k x0 (decide (x0 ≤ 239))) else (dactylref02_Size.j1 k x0 false))
def dactylref02_Size.j1 : Nat → Int → Bool → Option (Int)
 | 0, _, _ => none
 | k + 1, x0, x16 => if x16 = true then (some 3) else (if x0 ≥ 240 then (if x0 ≤ 244 then (some 4) else (some 0)) else (some 0))
end
def dactylref02_Size.f (k : Nat) (a0 : Int) : Option (Int) := if a0 < 128 then (some 1) else (if a0 ≥ 194 then (dactylref02_Size.j0 k a0 (decide (a0 ≤ 223))) else (dactylref02_Size.j0 k a0 false))
theorem dactylref02_Size.mono_l : ∀ k, (∀ y0 y1, LeO (dactylref02_Size.j0 k y0 y1) (dactylref02_Size.j0 (k + 1) y0 y1)) ∧ (∀ y0 y1, LeO (dactylref02_Size.j1 k y0 y1) (dactylref02_Size.j1 (k + 1) y0 y1))
 | 0 => ⟨fun _ _ r h => by simp [dactylref02_Size.j0] at h, fun _ _ r h => by simp [dactylref02_Size.j1] at h⟩
 | k + 1 => by
  obtain ⟨ih0, ih1⟩ := dactylref02_Size.mono_l k
  refine ⟨?_, ?_⟩
  ·intro y0 y1
   unfold dactylref02_Size.j0
   repeat' first
   | (with_reducible exact ih0 _ _)
   | (with_reducible exact ih1 _ _)
   | (with_reducible exact LeO.refl _)
   | (with_reducible exact LeO.none _)
   | (with_reducible refine LeO.ite ?_ ?_)
   | (with_reducible refine LeO.bind ?_ (fun _ => ?_))
   | exact ih0 _ _
   | exact ih1 _ _
   | exact LeO.none _
   | refine LeO.ite ?_ ?_
   | refine LeO.bind ?_ (fun _ => ?_)
  ·intro y0 y1
   unfold dactylref02_Size.j1
   repeat' first
   | (with_reducible exact ih0 _ _)
   | (with_reducible exact ih1 _ _)
   | (with_reducible exact LeO.refl _)
   | (with_reducible exact LeO.none _)
   | (with_reducible refine LeO.ite ?_ ?_)
   | (with_reducible refine LeO.bind ?_ (fun _ => ?_))
   | exact ih0 _ _
   | exact ih1 _ _
   | exact LeO.none _
   | refine LeO.ite ?_ ?_
   | refine LeO.bind ?_ (fun _ => ?_)
theorem dactylref02_Size.mono : ∀ a0 k, LeO (dactylref02_Size.f k a0) (dactylref02_Size.f (k + 1) a0) := by
 intro a0 k
 obtain ⟨ih0, ih1⟩ := dactylref02_Size.mono_l k
 unfold dactylref02_Size.f
 repeat' first
   | (with_reducible exact ih0 _ _)
   | (with_reducible exact ih1 _ _)
   | (with_reducible exact LeO.refl _)
   | (with_reducible exact LeO.none _)
   | (with_reducible refine LeO.ite ?_ ?_)
   | (with_reducible refine LeO.bind ?_ (fun _ => ?_))
   | exact ih0 _ _
   | exact ih1 _ _
   | exact LeO.none _
   | refine LeO.ite ?_ ?_
   | refine LeO.bind ?_ (fun _ => ?_)
set_option maxHeartbeats 8000000 in
set_option maxRecDepth 100000 in
theorem dactylref02_Size.calls (k : Nat) (a0 : Int) (r : Int) (w : World) (h : dactylref02_Size.f k a0 = some r) :
  Calls Try.prog 53 #[.int .u8 a0] w fun e w' => e = .returned (.int .i64 r) ∧ Drawn0 w w' := by
 have H : (if a0 < 128 then (some 1) else (if a0 ≥ 194 then (dactylref02_Size.j0 k a0 (decide (a0 ≤ 223))) else (dactylref02_Size.j0 k a0 false))) = some r := h
 clear h
 by_cases c2 : a0 < 128
 ·rw [if_pos c2] at H
  have c2b0 : decide (a0 < 128) = true := decide_eq_true c2
  clear c2
  obtain rfl := Option.some.inj H
  go_enter Try.func53, Try.ntmps53
  go_wp2
  go_ret
  exact ⟨by first | rfl | (simp; done) | (simp [*]; done), by repeat (first | exact Drawn0.refl _ | apply Drawn0.step)⟩
 ·rw [if_neg c2] at H
  have c2b0 : decide (a0 < 128) = false := decide_eq_false c2
  clear c2
  have HC3 := Aside0.mk H
  clear H
  go_enter Try.func53, Try.ntmps53
  go_upto_region 3 with (fail)
  go_cut [10] (fun v10 wc => ∃ (kq : Nat) (x10_2 : Bool), v10 = .bool x10_2 ∧ Aside0 (dactylref02_Size.j0 kq a0 x10_2 = some r) ∧ Aside0 (kq ≤ k) ∧ Drawn0 w wc)
  case first =>
   have H := HC3.out
   clear HC3
   by_cases c4 : a0 ≥ 194
   ·rw [if_pos c4] at H
    have c4b0 : decide (194 ≤ a0) = true := decide_eq_true c4
    clear c4
    (first | rw [c4b0] | (simp only [i64_w, i32_w]; rw [c4b0]) | skip)
    have H' := Aside0.mk H
    clear H
    go_wp2
    go_meet
    case rel => exact ⟨_, (decide (a0 ≤ 223)), (by first | rfl | (simp; done) | (simp [*]; done)), H', ⟨by first | omega | exact Nat.le_refl _⟩, by repeat (first | exact Drawn0.refl _ | apply Drawn0.step)⟩
   ·rw [if_neg c4] at H
    have c4b0 : decide (194 ≤ a0) = false := decide_eq_false c4
    clear c4
    (first | rw [c4b0] | (simp only [i64_w, i32_w]; rw [c4b0]) | skip)
    have H' := Aside0.mk H
    clear H
    go_wp2
    go_meet
    case rel => exact ⟨_, (false), (by first | rfl | (simp; done) | (simp [*]; done)), H', ⟨by first | omega | exact Nat.le_refl _⟩, by repeat (first | exact Drawn0.refl _ | apply Drawn0.step)⟩
  case rest =>
   clear HC3
   try clear c2
   try clear c2b0
   try clear p2
   try clear c4
   try clear c4b0
   obtain ⟨kq, x10_2, rfl, HA, HJ2, ⟨mc2, rfl⟩⟩ := hcut
   cases kq with
   | zero => exact absurd HA.out (by simp [dactylref02_Size.j0])
   | succ kj2 =>
    have H := HA.out
    clear HA
    simp only [dactylref02_Size.j0] at H
    by_cases c5 : x10_2 = true
    ·subst c5
     have H1 : (some 2) = some r := by rw [if_pos rfl] at H; exact H
     clear H
     have H := H1
     clear H1
     obtain rfl := Option.some.inj H
     go_wp2
     go_ret
     exact ⟨by first | rfl | (simp; done) | (simp [*]; done), by repeat (first | exact Drawn0.refl _ | apply Drawn0.step)⟩
    ·replace c5 := Bool.eq_false_iff.mpr c5
     subst c5
     have H1 : (if a0 ≥ 224 then (dactylref02_Size.j1 kj2 a0 (decide (a0 ≤ 239))) else (dactylref02_Size.j1 kj2 a0 false)) = some r := by rw [if_neg (show ¬ (false = true) by decide)] at H; exact H
     clear H
     have H := H1
     clear H1
     have HC6 := Aside0.mk H
     clear H
     go_upto_region 5 with (fail)
     go_cut [16] (fun v16 wc => ∃ (kq : Nat) (x16_5 : Bool), v16 = .bool x16_5 ∧ Aside0 (dactylref02_Size.j1 kq a0 x16_5 = some r) ∧ Aside0 (kq ≤ kj2) ∧ Drawn0 w wc)
     case first =>
      have H := HC6.out
      clear HC6
      by_cases c7 : a0 ≥ 224
      ·rw [if_pos c7] at H
       have c7b0 : decide (224 ≤ a0) = true := decide_eq_true c7
       clear c7
       (first | rw [c7b0] | (simp only [i64_w, i32_w]; rw [c7b0]) | skip)
       have H' := Aside0.mk H
       clear H
       go_wp2
       go_meet
       case rel => exact ⟨_, (decide (a0 ≤ 239)), (by first | rfl | (simp; done) | (simp [*]; done)), H', ⟨by have := HJ2.out; first | omega | exact Nat.le_refl _⟩, by repeat (first | exact Drawn0.refl _ | apply Drawn0.step)⟩
      ·rw [if_neg c7] at H
       have c7b0 : decide (224 ≤ a0) = false := decide_eq_false c7
       clear c7
       (first | rw [c7b0] | (simp only [i64_w, i32_w]; rw [c7b0]) | skip)
       have H' := Aside0.mk H
       clear H
       go_wp2
       go_meet
       case rel => exact ⟨_, (false), (by first | rfl | (simp; done) | (simp [*]; done)), H', ⟨by have := HJ2.out; first | omega | exact Nat.le_refl _⟩, by repeat (first | exact Drawn0.refl _ | apply Drawn0.step)⟩
     case rest =>
      clear HC6
      try clear c2
      try clear c2b0
      try clear p2
      try clear c4
      try clear c4b0
      try clear c5
      try clear c7
      try clear c7b0
      try clear p2
      obtain ⟨kq, x16_5, rfl, HA, HJ5, ⟨mc5, rfl⟩⟩ := hcut
      cases kq with
      | zero => exact absurd HA.out (by simp [dactylref02_Size.j1])
      | succ kj5 =>
       have H := HA.out
       clear HA
       simp only [dactylref02_Size.j1] at H
       by_cases c8 : x16_5 = true
       ·subst c8
        have H1 : (some 3) = some r := by rw [if_pos rfl] at H; exact H
        clear H
        have H := H1
        clear H1
        obtain rfl := Option.some.inj H
        go_wp2
        go_ret
        exact ⟨by first | rfl | (simp; done) | (simp [*]; done), by repeat (first | exact Drawn0.refl _ | apply Drawn0.step)⟩
       ·replace c8 := Bool.eq_false_iff.mpr c8
        subst c8
        have H1 : (if a0 ≥ 240 then (if a0 ≤ 244 then (some 4) else (some 0)) else (some 0)) = some r := by rw [if_neg (show ¬ (false = true) by decide)] at H; exact H
        clear H
        have H := H1
        clear H1
        by_cases c9 : a0 ≥ 240
        ·rw [if_pos c9] at H
         have c9b0 : decide (240 ≤ a0) = true := decide_eq_true c9
         clear c9
         by_cases c10 : a0 ≤ 244
         ·rw [if_pos c10] at H
          have c10b0 : decide (a0 ≤ 244) = true := decide_eq_true c10
          clear c10
          obtain rfl := Option.some.inj H
          go_wp2
          go_ret
          exact ⟨by first | rfl | (simp; done) | (simp [*]; done), by repeat (first | exact Drawn0.refl _ | apply Drawn0.step)⟩
         ·rw [if_neg c10] at H
          have c10b0 : decide (a0 ≤ 244) = false := decide_eq_false c10
          clear c10
          obtain rfl := Option.some.inj H
          go_wp2
          go_ret
          exact ⟨by first | rfl | (simp; done) | (simp [*]; done), by repeat (first | exact Drawn0.refl _ | apply Drawn0.step)⟩
        ·rw [if_neg c9] at H
         have c9b0 : decide (240 ≤ a0) = false := decide_eq_false c9
         clear c9
         obtain rfl := Option.some.inj H
         go_wp2
         go_ret
         exact ⟨by first | rfl | (simp; done) | (simp [*]; done), by repeat (first | exact Drawn0.refl _ | apply Drawn0.step)⟩

/-! ### dactylref02_May: function 64 -/
def dactylref02_May.j0 : Nat → Int → Int → Int → Bool → Option (Bool)
 | 0, _, _, _, _ => none
 | k + 1, x0, x1, x2, x12 => if x12 = true then (some false) else (if x2 > 1 then (some true) else (if x0 = 224 then (if x1 < 160 then (some (!true)) else (if x0 = 237 then (if x1 > 159 then (some (!true)) else (if x0 = 240 then (if x1 < 144 then (some (!true)) else (if x0 = 244 then (some (!(decide (x1 > 143)))) else (some (!false)))) else (if x0 = 244 then (some (!(decide (x1 > 143)))) else (some (!false))))) else (if x0 = 240 then (if x1 < 144 then (some (!true)) else (if x0 = 244 then (some (!(decide (x1 > 143)))) else (some (!false)))) else (if x0 = 244 then (some (!(decide (x1 > 143)))) else (some (!false)))))) else (if x0 = 237 then (if x1 > 159 then (some (!true)) else (if x0 = 240 then (if x1 < 144 then (some (!true)) else (if x0 = 244 then (some (!(decide (x1 > 143)))) else (some (!false)))) else (if x0 = 244 then (some (!(decide (x1 > 143)))) else (some (!false))))) else (if x0 = 240 then (if x1 < 144 then (some (!true)) else (if x0 = 244 then (some (!(decide (x1 > 143)))) else (some (!false)))) else (if x0 = 244 then (some (!(decide (x1 > 143)))) else (some (!false)))))))
def dactylref02_May.f (k : Nat) (a0 : Int) (a1 : Int) (a2 : Int) : Option (Bool) := if a1 < 128 then (dactylref02_May.j0 k a0 a1 a2 true) else (dactylref02_May.j0 k a0 a1 a2 (decide (a1 > 191)))
theorem dactylref02_May.mono_l : ∀ k, (∀ y0 y1 y2 y3, LeO (dactylref02_May.j0 k y0 y1 y2 y3) (dactylref02_May.j0 (k + 1) y0 y1 y2 y3))
 | 0 => fun _ _ _ _ r h => by simp [dactylref02_May.j0] at h
 | k + 1 => by
  have ih0 := dactylref02_May.mono_l k
  ·intro y0 y1 y2 y3
   unfold dactylref02_May.j0
   repeat' first
   | (with_reducible exact ih0 _ _ _ _)
   | (with_reducible exact LeO.refl _)
   | (with_reducible exact LeO.none _)
   | (with_reducible refine LeO.ite ?_ ?_)
   | (with_reducible refine LeO.bind ?_ (fun _ => ?_))
   | exact ih0 _ _ _ _
   | exact LeO.none _
   | refine LeO.ite ?_ ?_
   | refine LeO.bind ?_ (fun _ => ?_)
theorem dactylref02_May.mono : ∀ a0 a1 a2 k, LeO (dactylref02_May.f k a0 a1 a2) (dactylref02_May.f (k + 1) a0 a1 a2) := by
 intro a0 a1 a2 k
 have ih0 := dactylref02_May.mono_l k
 unfold dactylref02_May.f
 repeat' first
   | (with_reducible exact ih0 _ _ _ _)
   | (with_reducible exact LeO.refl _)
   | (with_reducible exact LeO.none _)
   | (with_reducible refine LeO.ite ?_ ?_)
   | (with_reducible refine LeO.bind ?_ (fun _ => ?_))
   | exact ih0 _ _ _ _
   | exact LeO.none _
   | refine LeO.ite ?_ ?_
   | refine LeO.bind ?_ (fun _ => ?_)
set_option maxHeartbeats 8000000 in
set_option maxRecDepth 100000 in
theorem dactylref02_May.calls (k : Nat) (a0 : Int) (a1 : Int) (a2 : Int) (r : Bool) (w : World) (h : dactylref02_May.f k a0 a1 a2 = some r) :
  Calls Try.prog 64 #[.int .u8 a0, .int .u8 a1, .int .i64 a2] w fun e w' => e = .returned (.bool r) ∧ Drawn0 w w' := by
 have H : (if a1 < 128 then (dactylref02_May.j0 k a0 a1 a2 true) else (dactylref02_May.j0 k a0 a1 a2 (decide (a1 > 191)))) = some r := h
 clear h
 have HC4 := Aside0.mk H
 clear H
 go_enter Try.func64, Try.ntmps64
 go_upto_region 1 with (fail)
 go_cut [12] (fun v12 wc => ∃ (kq : Nat) (x12_3 : Bool), v12 = .bool x12_3 ∧ Aside0 (dactylref02_May.j0 kq a0 a1 a2 x12_3 = some r) ∧ Aside0 (kq ≤ k) ∧ Drawn0 w wc)
 case first =>
  have H := HC4.out
  clear HC4
  by_cases c5 : a1 < 128
  ·rw [if_pos c5] at H
   have c5b0 : decide (a1 < 128) = true := decide_eq_true c5
   clear c5
   (first | rw [c5b0] | (simp only [i64_w, i32_w]; rw [c5b0]) | skip)
   have H' := Aside0.mk H
   clear H
   go_wp2
   go_meet
   case rel => exact ⟨_, (true), (by first | rfl | (simp; done) | (simp [*]; done)), H', ⟨by first | omega | exact Nat.le_refl _⟩, by repeat (first | exact Drawn0.refl _ | apply Drawn0.step)⟩
  ·rw [if_neg c5] at H
   have c5b0 : decide (a1 < 128) = false := decide_eq_false c5
   clear c5
   (first | rw [c5b0] | (simp only [i64_w, i32_w]; rw [c5b0]) | skip)
   have H' := Aside0.mk H
   clear H
   go_wp2
   go_meet
   case rel => exact ⟨_, (decide (a1 > 191)), (by first | rfl | (simp; done) | (simp [*]; done)), H', ⟨by first | omega | exact Nat.le_refl _⟩, by repeat (first | exact Drawn0.refl _ | apply Drawn0.step)⟩
 case rest =>
  clear HC4
  try clear p2
  try clear c5
  try clear c5b0
  obtain ⟨kq, x12_3, rfl, HA, HJ3, ⟨mc3, rfl⟩⟩ := hcut
  cases kq with
  | zero => exact absurd HA.out (by simp [dactylref02_May.j0])
  | succ kj3 =>
   have H := HA.out
   clear HA
   simp only [dactylref02_May.j0] at H
   by_cases c6 : x12_3 = true
   ·subst c6
    have H1 : (some false) = some r := by rw [if_pos rfl] at H; exact H
    clear H
    have H := H1
    clear H1
    obtain rfl := Option.some.inj H
    go_wp2
    go_ret
    exact ⟨by first | rfl | (simp; done) | (simp [*]; done), by repeat (first | exact Drawn0.refl _ | apply Drawn0.step)⟩
   ·replace c6 := Bool.eq_false_iff.mpr c6
    subst c6
    have H1 : (if a2 > 1 then (some true) else (if a0 = 224 then (if a1 < 160 then (some (!true)) else (if a0 = 237 then (if a1 > 159 then (some (!true)) else (if a0 = 240 then (if a1 < 144 then (some (!true)) else (if a0 = 244 then (some (!(decide (a1 > 143)))) else (some (!false)))) else (if a0 = 244 then (some (!(decide (a1 > 143)))) else (some (!false))))) else (if a0 = 240 then (if a1 < 144 then (some (!true)) else (if a0 = 244 then (some (!(decide (a1 > 143)))) else (some (!false)))) else (if a0 = 244 then (some (!(decide (a1 > 143)))) else (some (!false)))))) else (if a0 = 237 then (if a1 > 159 then (some (!true)) else (if a0 = 240 then (if a1 < 144 then (some (!true)) else (if a0 = 244 then (some (!(decide (a1 > 143)))) else (some (!false)))) else (if a0 = 244 then (some (!(decide (a1 > 143)))) else (some (!false))))) else (if a0 = 240 then (if a1 < 144 then (some (!true)) else (if a0 = 244 then (some (!(decide (a1 > 143)))) else (some (!false)))) else (if a0 = 244 then (some (!(decide (a1 > 143)))) else (some (!false))))))) = some r := by rw [if_neg (show ¬ (false = true) by decide)] at H; exact H
    clear H
    have H := H1
    clear H1
    by_cases c7 : a2 > 1
    ·rw [if_pos c7] at H
     have c7b0 : decide (1 < a2) = true := decide_eq_true c7
     clear c7
     obtain rfl := Option.some.inj H
     go_wp2
     go_ret
     exact ⟨by first | rfl | (simp; done) | (simp [*]; done), by repeat (first | exact Drawn0.refl _ | apply Drawn0.step)⟩
    ·rw [if_neg c7] at H
     have c7b0 : decide (1 < a2) = false := decide_eq_false c7
     clear c7
     by_cases c8 : a0 = 224
     ·rw [if_pos c8] at H
      have c8b0 : (a0 == 224) = true := beq_iff_eq.mpr c8
      have c8b1 : (a0 != 224) = false := bne_eq_false_iff_eq.mpr c8
      clear c8
      by_cases c9 : a1 < 160
      ·rw [if_pos c9] at H
       have c9b0 : decide (a1 < 160) = true := decide_eq_true c9
       clear c9
       obtain rfl := Option.some.inj H
       go_wp2
       go_ret
       exact ⟨by first | rfl | (simp; done) | (simp [*]; done), by repeat (first | exact Drawn0.refl _ | apply Drawn0.step)⟩
      ·rw [if_neg c9] at H
       have c9b0 : decide (a1 < 160) = false := decide_eq_false c9
       clear c9
       by_cases c10 : a0 = 237
       ·rw [if_pos c10] at H
        have c10b0 : (a0 == 237) = true := beq_iff_eq.mpr c10
        have c10b1 : (a0 != 237) = false := bne_eq_false_iff_eq.mpr c10
        clear c10
        by_cases c11 : a1 > 159
        ·rw [if_pos c11] at H
         have c11b0 : decide (159 < a1) = true := decide_eq_true c11
         clear c11
         obtain rfl := Option.some.inj H
         go_wp2
         go_ret
         exact ⟨by first | rfl | (simp; done) | (simp [*]; done), by repeat (first | exact Drawn0.refl _ | apply Drawn0.step)⟩
        ·rw [if_neg c11] at H
         have c11b0 : decide (159 < a1) = false := decide_eq_false c11
         clear c11
         by_cases c12 : a0 = 240
         ·rw [if_pos c12] at H
          have c12b0 : (a0 == 240) = true := beq_iff_eq.mpr c12
          have c12b1 : (a0 != 240) = false := bne_eq_false_iff_eq.mpr c12
          clear c12
          by_cases c13 : a1 < 144
          ·rw [if_pos c13] at H
           have c13b0 : decide (a1 < 144) = true := decide_eq_true c13
           clear c13
           obtain rfl := Option.some.inj H
           go_wp2
           go_ret
           exact ⟨by first | rfl | (simp; done) | (simp [*]; done), by repeat (first | exact Drawn0.refl _ | apply Drawn0.step)⟩
          ·rw [if_neg c13] at H
           have c13b0 : decide (a1 < 144) = false := decide_eq_false c13
           clear c13
           by_cases c14 : a0 = 244
           ·rw [if_pos c14] at H
            have c14b0 : (a0 == 244) = true := beq_iff_eq.mpr c14
            have c14b1 : (a0 != 244) = false := bne_eq_false_iff_eq.mpr c14
            clear c14
            obtain rfl := Option.some.inj H
            go_wp2
            go_ret
            exact ⟨by first | rfl | (simp; done) | (simp [*]; done), by repeat (first | exact Drawn0.refl _ | apply Drawn0.step)⟩
           ·rw [if_neg c14] at H
            have c14b0 : (a0 == 244) = false := beq_eq_false_iff_ne.mpr c14
            have c14b1 : (a0 != 244) = true := bne_iff_ne.mpr c14
            obtain rfl := Option.some.inj H
            go_wp2
            go_ret
            exact ⟨by first | rfl | (simp; done) | (simp [*]; done), by repeat (first | exact Drawn0.refl _ | apply Drawn0.step)⟩
         ·rw [if_neg c12] at H
          have c12b0 : (a0 == 240) = false := beq_eq_false_iff_ne.mpr c12
          have c12b1 : (a0 != 240) = true := bne_iff_ne.mpr c12
          by_cases c15 : a0 = 244
          ·rw [if_pos c15] at H
           have c15b0 : (a0 == 244) = true := beq_iff_eq.mpr c15
           have c15b1 : (a0 != 244) = false := bne_eq_false_iff_eq.mpr c15
           clear c15
           obtain rfl := Option.some.inj H
           go_wp2
           go_ret
           exact ⟨by first | rfl | (simp; done) | (simp [*]; done), by repeat (first | exact Drawn0.refl _ | apply Drawn0.step)⟩
          ·rw [if_neg c15] at H
           have c15b0 : (a0 == 244) = false := beq_eq_false_iff_ne.mpr c15
           have c15b1 : (a0 != 244) = true := bne_iff_ne.mpr c15
           obtain rfl := Option.some.inj H
           go_wp2
           go_ret
           exact ⟨by first | rfl | (simp; done) | (simp [*]; done), by repeat (first | exact Drawn0.refl _ | apply Drawn0.step)⟩
       ·rw [if_neg c10] at H
        have c10b0 : (a0 == 237) = false := beq_eq_false_iff_ne.mpr c10
        have c10b1 : (a0 != 237) = true := bne_iff_ne.mpr c10
        by_cases c16 : a0 = 240
        ·rw [if_pos c16] at H
         have c16b0 : (a0 == 240) = true := beq_iff_eq.mpr c16
         have c16b1 : (a0 != 240) = false := bne_eq_false_iff_eq.mpr c16
         clear c16
         by_cases c17 : a1 < 144
         ·rw [if_pos c17] at H
          have c17b0 : decide (a1 < 144) = true := decide_eq_true c17
          clear c17
          obtain rfl := Option.some.inj H
          go_wp2
          go_ret
          exact ⟨by first | rfl | (simp; done) | (simp [*]; done), by repeat (first | exact Drawn0.refl _ | apply Drawn0.step)⟩
         ·rw [if_neg c17] at H
          have c17b0 : decide (a1 < 144) = false := decide_eq_false c17
          clear c17
          by_cases c18 : a0 = 244
          ·rw [if_pos c18] at H
           have c18b0 : (a0 == 244) = true := beq_iff_eq.mpr c18
           have c18b1 : (a0 != 244) = false := bne_eq_false_iff_eq.mpr c18
           clear c18
           obtain rfl := Option.some.inj H
           go_wp2
           go_ret
           exact ⟨by first | rfl | (simp; done) | (simp [*]; done), by repeat (first | exact Drawn0.refl _ | apply Drawn0.step)⟩
          ·rw [if_neg c18] at H
           have c18b0 : (a0 == 244) = false := beq_eq_false_iff_ne.mpr c18
           have c18b1 : (a0 != 244) = true := bne_iff_ne.mpr c18
           obtain rfl := Option.some.inj H
           go_wp2
           go_ret
           exact ⟨by first | rfl | (simp; done) | (simp [*]; done), by repeat (first | exact Drawn0.refl _ | apply Drawn0.step)⟩
        ·rw [if_neg c16] at H
         have c16b0 : (a0 == 240) = false := beq_eq_false_iff_ne.mpr c16
         have c16b1 : (a0 != 240) = true := bne_iff_ne.mpr c16
         by_cases c19 : a0 = 244
         ·rw [if_pos c19] at H
          have c19b0 : (a0 == 244) = true := beq_iff_eq.mpr c19
          have c19b1 : (a0 != 244) = false := bne_eq_false_iff_eq.mpr c19
          clear c19
          obtain rfl := Option.some.inj H
          go_wp2
          go_ret
          exact ⟨by first | rfl | (simp; done) | (simp [*]; done), by repeat (first | exact Drawn0.refl _ | apply Drawn0.step)⟩
         ·rw [if_neg c19] at H
          have c19b0 : (a0 == 244) = false := beq_eq_false_iff_ne.mpr c19
          have c19b1 : (a0 != 244) = true := bne_iff_ne.mpr c19
          obtain rfl := Option.some.inj H
          go_wp2
          go_ret
          exact ⟨by first | rfl | (simp; done) | (simp [*]; done), by repeat (first | exact Drawn0.refl _ | apply Drawn0.step)⟩
     ·rw [if_neg c8] at H
      have c8b0 : (a0 == 224) = false := beq_eq_false_iff_ne.mpr c8
      have c8b1 : (a0 != 224) = true := bne_iff_ne.mpr c8
      by_cases c20 : a0 = 237
      ·rw [if_pos c20] at H
       have c20b0 : (a0 == 237) = true := beq_iff_eq.mpr c20
       have c20b1 : (a0 != 237) = false := bne_eq_false_iff_eq.mpr c20
       clear c20
       by_cases c21 : a1 > 159
       ·rw [if_pos c21] at H
        have c21b0 : decide (159 < a1) = true := decide_eq_true c21
        clear c21
        obtain rfl := Option.some.inj H
        go_wp2
        go_ret
        exact ⟨by first | rfl | (simp; done) | (simp [*]; done), by repeat (first | exact Drawn0.refl _ | apply Drawn0.step)⟩
       ·rw [if_neg c21] at H
        have c21b0 : decide (159 < a1) = false := decide_eq_false c21
        clear c21
        by_cases c22 : a0 = 240
        ·rw [if_pos c22] at H
         have c22b0 : (a0 == 240) = true := beq_iff_eq.mpr c22
         have c22b1 : (a0 != 240) = false := bne_eq_false_iff_eq.mpr c22
         clear c22
         by_cases c23 : a1 < 144
         ·rw [if_pos c23] at H
          have c23b0 : decide (a1 < 144) = true := decide_eq_true c23
          clear c23
          obtain rfl := Option.some.inj H
          go_wp2
          go_ret
          exact ⟨by first | rfl | (simp; done) | (simp [*]; done), by repeat (first | exact Drawn0.refl _ | apply Drawn0.step)⟩
         ·rw [if_neg c23] at H
          have c23b0 : decide (a1 < 144) = false := decide_eq_false c23
          clear c23
          by_cases c24 : a0 = 244
          ·rw [if_pos c24] at H
           have c24b0 : (a0 == 244) = true := beq_iff_eq.mpr c24
           have c24b1 : (a0 != 244) = false := bne_eq_false_iff_eq.mpr c24
           clear c24
           obtain rfl := Option.some.inj H
           go_wp2
           go_ret
           exact ⟨by first | rfl | (simp; done) | (simp [*]; done), by repeat (first | exact Drawn0.refl _ | apply Drawn0.step)⟩
          ·rw [if_neg c24] at H
           have c24b0 : (a0 == 244) = false := beq_eq_false_iff_ne.mpr c24
           have c24b1 : (a0 != 244) = true := bne_iff_ne.mpr c24
           obtain rfl := Option.some.inj H
           go_wp2
           go_ret
           exact ⟨by first | rfl | (simp; done) | (simp [*]; done), by repeat (first | exact Drawn0.refl _ | apply Drawn0.step)⟩
        ·rw [if_neg c22] at H
         have c22b0 : (a0 == 240) = false := beq_eq_false_iff_ne.mpr c22
         have c22b1 : (a0 != 240) = true := bne_iff_ne.mpr c22
         by_cases c25 : a0 = 244
         ·rw [if_pos c25] at H
          have c25b0 : (a0 == 244) = true := beq_iff_eq.mpr c25
          have c25b1 : (a0 != 244) = false := bne_eq_false_iff_eq.mpr c25
          clear c25
          obtain rfl := Option.some.inj H
          go_wp2
          go_ret
          exact ⟨by first | rfl | (simp; done) | (simp [*]; done), by repeat (first | exact Drawn0.refl _ | apply Drawn0.step)⟩
         ·rw [if_neg c25] at H
          have c25b0 : (a0 == 244) = false := beq_eq_false_iff_ne.mpr c25
          have c25b1 : (a0 != 244) = true := bne_iff_ne.mpr c25
          obtain rfl := Option.some.inj H
          go_wp2
          go_ret
          exact ⟨by first | rfl | (simp; done) | (simp [*]; done), by repeat (first | exact Drawn0.refl _ | apply Drawn0.step)⟩
      ·rw [if_neg c20] at H
       have c20b0 : (a0 == 237) = false := beq_eq_false_iff_ne.mpr c20
       have c20b1 : (a0 != 237) = true := bne_iff_ne.mpr c20
       by_cases c26 : a0 = 240
       ·rw [if_pos c26] at H
        have c26b0 : (a0 == 240) = true := beq_iff_eq.mpr c26
        have c26b1 : (a0 != 240) = false := bne_eq_false_iff_eq.mpr c26
        clear c26
        by_cases c27 : a1 < 144
        ·rw [if_pos c27] at H
         have c27b0 : decide (a1 < 144) = true := decide_eq_true c27
         clear c27
         obtain rfl := Option.some.inj H
         go_wp2
         go_ret
         exact ⟨by first | rfl | (simp; done) | (simp [*]; done), by repeat (first | exact Drawn0.refl _ | apply Drawn0.step)⟩
        ·rw [if_neg c27] at H
         have c27b0 : decide (a1 < 144) = false := decide_eq_false c27
         clear c27
         by_cases c28 : a0 = 244
         ·rw [if_pos c28] at H
          have c28b0 : (a0 == 244) = true := beq_iff_eq.mpr c28
          have c28b1 : (a0 != 244) = false := bne_eq_false_iff_eq.mpr c28
          clear c28
          obtain rfl := Option.some.inj H
          go_wp2
          go_ret
          exact ⟨by first | rfl | (simp; done) | (simp [*]; done), by repeat (first | exact Drawn0.refl _ | apply Drawn0.step)⟩
         ·rw [if_neg c28] at H
          have c28b0 : (a0 == 244) = false := beq_eq_false_iff_ne.mpr c28
          have c28b1 : (a0 != 244) = true := bne_iff_ne.mpr c28
          obtain rfl := Option.some.inj H
          go_wp2
          go_ret
          exact ⟨by first | rfl | (simp; done) | (simp [*]; done), by repeat (first | exact Drawn0.refl _ | apply Drawn0.step)⟩
       ·rw [if_neg c26] at H
        have c26b0 : (a0 == 240) = false := beq_eq_false_iff_ne.mpr c26
        have c26b1 : (a0 != 240) = true := bne_iff_ne.mpr c26
        by_cases c29 : a0 = 244
        ·rw [if_pos c29] at H
         have c29b0 : (a0 == 244) = true := beq_iff_eq.mpr c29
         have c29b1 : (a0 != 244) = false := bne_eq_false_iff_eq.mpr c29
         clear c29
         obtain rfl := Option.some.inj H
         go_wp2
         go_ret
         exact ⟨by first | rfl | (simp; done) | (simp [*]; done), by repeat (first | exact Drawn0.refl _ | apply Drawn0.step)⟩
        ·rw [if_neg c29] at H
         have c29b0 : (a0 == 244) = false := beq_eq_false_iff_ne.mpr c29
         have c29b1 : (a0 != 244) = true := bne_iff_ne.mpr c29
         obtain rfl := Option.some.inj H
         go_wp2
         go_ret
         exact ⟨by first | rfl | (simp; done) | (simp [*]; done), by repeat (first | exact Drawn0.refl _ | apply Drawn0.step)⟩

end Go.Proofs.Ytpkmoonfnbcphaa.PAll
