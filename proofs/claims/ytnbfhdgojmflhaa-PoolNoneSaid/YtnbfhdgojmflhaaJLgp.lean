/-
  No statement is proved here.
-/
import Derived.Test.YtnbfhdgojmflhaaJLgo
import Derived.Great.BuildSlice
namespace Go.Proofs.Ytnbfhdgojmflhaa
open Go.RowKit
end Go.Proofs.Ytnbfhdgojmflhaa
