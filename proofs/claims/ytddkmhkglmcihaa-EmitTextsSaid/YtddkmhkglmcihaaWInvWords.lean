-- Words that the kit's print has written for this claim, without those that the claim does not use: cut by the session's own program (wip/tool/prune.py).
import Derived.Test.YtddkmhkglmcihaaWInv
import Derived.Test.YtddkmhkglmcihaaWFootNe
namespace Go.Proofs.YtddkmhkglmcihaaW.PrintWords
open Go.RowKit
end Go.Proofs.YtddkmhkglmcihaaW.PrintWords
namespace Go.Proofs.YtddkmhkglmcihaaW.PrintLast
end Go.Proofs.YtddkmhkglmcihaaW.PrintLast
