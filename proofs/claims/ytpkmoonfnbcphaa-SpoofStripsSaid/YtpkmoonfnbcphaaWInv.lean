-- Words that the kit's print has written for this claim, without those that the claim does not use: cut by the session's own program (wip/tool/prune.py).
import Derived.Test.YtpkmoonfnbcphaaWTab
namespace Go.Proofs.YtpkmoonfnbcphaaW.PrintLast
section
variable {P : Program} {ops : Array Oper} {Q : Exit → Act → World → Prop} {md : Region.Mode} {T : Bool × List (List Nat × List Nat)} {B : List Nat} {O : List Nat} {b : Nat → Bool} {i j n : Nat}
end
end Go.Proofs.YtpkmoonfnbcphaaW.PrintLast
