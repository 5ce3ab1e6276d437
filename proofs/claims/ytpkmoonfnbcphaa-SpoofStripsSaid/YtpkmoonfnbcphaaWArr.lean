-- Words that the kit's print has written for this claim, without those that the claim does not use: cut by the session's own program (wip/tool/prune.py).
import Derived.Test.YtpkmoonfnbcphaaWWords
namespace Go.Proofs.YtpkmoonfnbcphaaW.PrintWords
open Go.RowKit
namespace Kd
end Kd
end Go.Proofs.YtpkmoonfnbcphaaW.PrintWords
