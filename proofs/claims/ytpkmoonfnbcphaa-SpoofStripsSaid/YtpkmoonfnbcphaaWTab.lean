-- Words that the kit's print has written for this claim, without those that the claim does not use: cut by the session's own program (wip/tool/prune.py).
import Derived.Test.YtpkmoonfnbcphaaWLast
import Derived.Test.YtpkmoonfnbcphaaWWords
namespace Go.Proofs.YtpkmoonfnbcphaaW.PrintLast
open Go.Proofs.YtpkmoonfnbcphaaW.PrintWords (Aside0)
end Go.Proofs.YtpkmoonfnbcphaaW.PrintLast
