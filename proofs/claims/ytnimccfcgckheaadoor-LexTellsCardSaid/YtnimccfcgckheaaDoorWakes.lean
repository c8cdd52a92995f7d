import Derived.Test.YtnimccfcgckheaaDoorPresolventlaw06wakes
/-!
  The law's three texts, told by the plain lexer.
-/
namespace Go.Proofs.YtnimccfcgckheaaDoor.Pure
open Go.RowKit Go.Proofs.YtnimccfcgckheaaDoor.P Go.Proofs.YtnimccfcgckheaaDoorW.PrintWords Go.Proofs.YtnimccfcgckheaaDoorW.PrintLast
open Go Go.Proofs.YtnimccfcgckheaaDoor

theorem wakes : resolventlaw06_wakes.f = some true := by kernel_rfl

end Go.Proofs.YtnimccfcgckheaaDoor.Pure
