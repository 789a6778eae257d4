/- Walks: draws of hard tasks. No condition. -/
import Derived.Test.YtjmpfemlihjibaaDoorD7
import Derived.Test.YtjmpfemlihjibaaDoorA3
namespace Go.Proofs.YtjmpfemlihjibaaDoor
open Go.RowKit

/-- a task that a draw made -/
def DrawnT (v : Value) (w : World) : Prop := ∃ t, TaskV w v t









































































end Go.Proofs.YtjmpfemlihjibaaDoor
