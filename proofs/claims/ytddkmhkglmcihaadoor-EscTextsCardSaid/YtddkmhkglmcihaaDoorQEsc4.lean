/- Plain facts: what must come at any rate (esc). -/
import Derived.Test.YtddkmhkglmcihaaDoorPAllx5
set_option linter.unusedVariables false
set_option linter.unusedSimpArgs false
namespace Go.Proofs.YtddkmhkglmcihaaDoor.Q
open Go.RowKit Go.Proofs.YtddkmhkglmcihaaDoor.PAll Go.Proofs.YtddkmhkglmcihaaDoorW.PrintWords Go.Proofs.YtddkmhkglmcihaaDoorW.PrintLast Go.Proofs.YtddkmhkglmcihaaDoorW.PrintMore
theorem awake22 (k : Nat) (hk : 100 ≤ k) : dactyllaw22_awake.f k = some true := at_rounds dactyllaw22_awake.mono hk (show dactyllaw22_awake.f 100 = some true by decide +kernel)
end Go.Proofs.YtddkmhkglmcihaaDoor.Q
