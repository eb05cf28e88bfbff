/-
  No statement is proved here: a part of what the claim's last text rests on.
-/
import Derived.Test.YtnbfhdgojmflhaaGreatJLgo
import Derived.Great.BuildSlice
namespace Go.Proofs.YtnbfhdgojmflhaaGreat
open Go.RowKit
end Go.Proofs.YtnbfhdgojmflhaaGreat
