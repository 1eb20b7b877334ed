import Derived.Test.YtcldldmedphcfaaCSane
/- The chapter's examples hold. Condition: none. -/
namespace Go.Proofs.Ytcldldmedphcfaa.C
open Go.RowKit Go.Proofs.YtcldldmedphcfaaW.PrintWords Go.Proofs.YtcldldmedphcfaaW.PrintLast Go.Proofs.YtcldldmedphcfaaW.PrintMore
theorem sane_ok : Ev (fun k => dialtonelaw34_sane.f k) true := Ev.now true
end Go.Proofs.Ytcldldmedphcfaa.C
