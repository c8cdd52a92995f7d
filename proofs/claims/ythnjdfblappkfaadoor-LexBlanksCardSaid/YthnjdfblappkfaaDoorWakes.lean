import Derived.Test.YthnjdfblappkfaaDoorPresolventlaw06wakes
/-!
  The law's three texts, told by the plain lexer.
-/
namespace Go.Proofs.YthnjdfblappkfaaDoor.Pure
open Go.RowKit Go.Proofs.YthnjdfblappkfaaDoor.P Go.Proofs.YthnjdfblappkfaaDoorW.PrintWords Go.Proofs.YthnjdfblappkfaaDoorW.PrintLast
open Go Go.Proofs.YthnjdfblappkfaaDoor

theorem wakes : resolventlaw06_wakes.f = some true := by kernel_rfl

end Go.Proofs.YthnjdfblappkfaaDoor.Pure
