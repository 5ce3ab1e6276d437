/-
  No cell of these rows narrows 'for every input' (looked for: loops, veiled, ifaces, maps, wideKeys, modest, calm, conditions, laid).
  DERIVED. THE GIVEN ROWS OF THIS SEAT. 3 by the template 'for every input the law returns true; each argument reads behind the call as it read before'; 0 by the template 'total and deterministic' (their statements: YtpkmoonfnbcphaaTotals.lean).
  GIVEN WITH THE SEED: the statements are not yours to turn. If you find one false, say at which input.
  Laid BY PROGRAM, IN A SANDBOX (cutbox-rows.mjs): the forced cells as the released guide's own fill.sh prints them over the translation ab1dea7899ac4659… (all of the seat's roots in one cut). By AI agents, Wed Nov 11 2026. No macro, syntax, notation, axiom, sorry.
-/
import Derived.Test.YtpkmoonfnbcphaaChecked
import GoSem.Claim
import GoSem.ClaimJoined
import GoSem.ClaimMapViews
import Derived.JoinedTies
import Derived.KernelRfl
namespace Go.Proofs.Ytpkmoonfnbcphaa
/- THE CELL 'sum', in the pinned program and in every row, IS THE sha256 OF THE DUMP (.gsa) THAT YtpkmoonfnbcphaaProg.lean LOADS. Nothing in Lean hashes anything: it is a label: what it is worth is what the hold of that sum in a sandbox is worth. -/
noncomputable def Try.pinned : Pinned := { name := "ytpkmoonfnbcphaa", sum := "ab1dea7899ac46590a2fb7dc0761f4a5671435385f5b1b3ae66d2996d0dce032", checked := Try.checked }
namespace Rows
def none {H : Type} : Left H := { results := [], args := [] }

/-- 'dactyllaw44.SpoofStrips': WHATEVER THE INPUT: true; the input reads as it did. -/
def spoofStripsSpec : ChangeSpec := { name := "spoofStrips", fn := fun _ => fun
  | [d] => { results := [.lit (.bool true)], args := [d] }
  | _ => none }
def spoofStripsRow : OpenClaim := { program := "ytpkmoonfnbcphaa", sum := "ab1dea7899ac46590a2fb7dc0761f4a5671435385f5b1b3ae66d2996d0dce032", func := "dactyl/dactyllaw44.SpoofStrips", spec := "spoofStrips", inPlace := ["internal/abi.NoEscape"], unfollowed := true, recurses := true, apart := false }
def SpoofStripsSaid : Prop := spoofStripsRow.holds Try.pinned (OpenSpec.ofChange spoofStripsSpec)

/-- ITS FALSE NEIGHBOUR: 'it returns false'. Refute it at one input. -/
def spoofStripsWrong : ChangeSpec := { name := "spoofStrips", fn := fun _ => fun
  | [d] => { results := [.lit (.bool false)], args := [d] }
  | _ => none }
def SpoofStripsWrongFalsely : Prop := spoofStripsRow.holds Try.pinned (OpenSpec.ofChange spoofStripsWrong)

/-- 'dactyllaw44.SpoofAlike': WHATEVER THE INPUT: true; the input reads as it did. -/
def spoofAlikeSpec : ChangeSpec := { name := "spoofAlike", fn := fun _ => fun
  | [d1, d2, d3] => { results := [.lit (.bool true)], args := [d1, d2, d3] }
  | _ => none }
def spoofAlikeRow : OpenClaim := { program := "ytpkmoonfnbcphaa", sum := "ab1dea7899ac46590a2fb7dc0761f4a5671435385f5b1b3ae66d2996d0dce032", func := "dactyl/dactyllaw44.SpoofAlike", spec := "spoofAlike", inPlace := ["internal/abi.NoEscape"], unfollowed := true, recurses := true, apart := false }
def SpoofAlikeSaid : Prop := spoofAlikeRow.holds Try.pinned (OpenSpec.ofChange spoofAlikeSpec)

/-- ITS FALSE NEIGHBOUR: 'it returns false'. Refute it at one input. -/
def spoofAlikeWrong : ChangeSpec := { name := "spoofAlike", fn := fun _ => fun
  | [d1, d2, d3] => { results := [.lit (.bool false)], args := [d1, d2, d3] }
  | _ => none }
def SpoofAlikeWrongFalsely : Prop := spoofAlikeRow.holds Try.pinned (OpenSpec.ofChange spoofAlikeWrong)

/-- 'dactyllaw44.SpoofScripts': WHATEVER THE INPUT: true; the input reads as it did. -/
def spoofScriptsSpec : ChangeSpec := { name := "spoofScripts", fn := fun _ => fun
  | [d1, d2] => { results := [.lit (.bool true)], args := [d1, d2] }
  | _ => none }
def spoofScriptsRow : OpenClaim := { program := "ytpkmoonfnbcphaa", sum := "ab1dea7899ac46590a2fb7dc0761f4a5671435385f5b1b3ae66d2996d0dce032", func := "dactyl/dactyllaw44.SpoofScripts", spec := "spoofScripts", inPlace := ["internal/abi.NoEscape"], unfollowed := true, recurses := true, apart := false }
def SpoofScriptsSaid : Prop := spoofScriptsRow.holds Try.pinned (OpenSpec.ofChange spoofScriptsSpec)

/-- ITS FALSE NEIGHBOUR: 'it returns false'. Refute it at one input. -/
def spoofScriptsWrong : ChangeSpec := { name := "spoofScripts", fn := fun _ => fun
  | [d1, d2] => { results := [.lit (.bool false)], args := [d1, d2] }
  | _ => none }
def SpoofScriptsWrongFalsely : Prop := spoofScriptsRow.holds Try.pinned (OpenSpec.ofChange spoofScriptsWrong)

/- THE SECOND FORM. 'bulk': how many values and letters a reading holds, each counted each time it is reached (what is shared counts as often as it is met; a slice's spare places count too). A statement '..UptoSaid' is the law's where the arguments, and the package variables that the reading takes, are together of bulk at most 1048576: NARROWER than '..Said'. Prove '..Said' where nothing that the law and all that it calls make is longer than what came in: it says more and counts as full. Else prove '..UptoSaid'. A law counts once. -/
mutual
def uptoBulk {H : Type} : DataW H → Nat
  | .lit (.string bytes) => bytes.length + 1
  | .lit _ => 1
  | .nil => 1
  | .ptr d => uptoBulk d + 1
  | .slice elems spare => uptoBulkAll elems + uptoBulkAll spare + 1
  | .agg parts => uptoBulkAll parts + 1
  | .iface _ d => uptoBulk d + 1
  | .map entries => uptoBulkEntries entries + 1
  | .held _ => 1
def uptoBulkAll {H : Type} : List (DataW H) → Nat
  | [] => 0
  | d :: r => uptoBulk d + uptoBulkAll r
def uptoBulkEntries {H : Type} : List (Lit × DataW H) → Nat
  | [] => 0
  | x :: r => uptoBulkEntry x + uptoBulkEntries r
def uptoBulkEntry {H : Type} : Lit × DataW H → Nat
  | (.string bytes, d) => bytes.length + uptoBulk d + 1
  | (_, d) => uptoBulk d + 1
 end
def uptoSmall : (H : Type) → List (DataW H) → Bool := fun _ ds => decide (uptoBulkAll ds ≤ 1048576)
def OpenSpec.upto (s : _root_.Go.ChangeSpec) : _root_.Go.OpenSpec := { _root_.Go.OpenSpec.ofChange s with cond := some uptoSmall }

/-- 'dactyllaw44.SpoofStrips', WHERE WHAT IT READS IS OF BULK AT MOST 1048576: true; the input reads as it did. -/
def spoofStripsUptoRow : OpenClaim := { program := "ytpkmoonfnbcphaa", sum := "ab1dea7899ac46590a2fb7dc0761f4a5671435385f5b1b3ae66d2996d0dce032", func := "dactyl/dactyllaw44.SpoofStrips", spec := "spoofStrips", inPlace := ["internal/abi.NoEscape"], unfollowed := true, recurses := true, apart := false, narrowed := true }
def SpoofStripsUptoSaid : Prop := spoofStripsUptoRow.holds Try.pinned (OpenSpec.upto spoofStripsSpec)

/-- 'dactyllaw44.SpoofAlike', WHERE WHAT IT READS IS OF BULK AT MOST 1048576: true; the input reads as it did. -/
def spoofAlikeUptoRow : OpenClaim := { program := "ytpkmoonfnbcphaa", sum := "ab1dea7899ac46590a2fb7dc0761f4a5671435385f5b1b3ae66d2996d0dce032", func := "dactyl/dactyllaw44.SpoofAlike", spec := "spoofAlike", inPlace := ["internal/abi.NoEscape"], unfollowed := true, recurses := true, apart := false, narrowed := true }
def SpoofAlikeUptoSaid : Prop := spoofAlikeUptoRow.holds Try.pinned (OpenSpec.upto spoofAlikeSpec)

/-- 'dactyllaw44.SpoofScripts', WHERE WHAT IT READS IS OF BULK AT MOST 1048576: true; the input reads as it did. -/
def spoofScriptsUptoRow : OpenClaim := { program := "ytpkmoonfnbcphaa", sum := "ab1dea7899ac46590a2fb7dc0761f4a5671435385f5b1b3ae66d2996d0dce032", func := "dactyl/dactyllaw44.SpoofScripts", spec := "spoofScripts", inPlace := ["internal/abi.NoEscape"], unfollowed := true, recurses := true, apart := false, narrowed := true }
def SpoofScriptsUptoSaid : Prop := spoofScriptsUptoRow.holds Try.pinned (OpenSpec.upto spoofScriptsSpec)

end Rows
end Go.Proofs.Ytpkmoonfnbcphaa
