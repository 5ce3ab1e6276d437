-- Words that the kit's print has written for this claim, without those that the claim does not use: cut by the session's own program (wip/tool/prune.py).
import Derived.Test.YtpkmoonfnbcphaaWTab
namespace Go.Proofs.YtpkmoonfnbcphaaW.PrintLast
end Go.Proofs.YtpkmoonfnbcphaaW.PrintLast
