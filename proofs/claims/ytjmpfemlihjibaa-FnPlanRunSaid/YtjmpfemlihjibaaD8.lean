/- Walks: draws of hard tasks. No condition. -/
import Derived.Test.YtjmpfemlihjibaaD7
import Derived.Test.YtjmpfemlihjibaaA3
namespace Go.Proofs.Ytjmpfemlihjibaa
open Go.RowKit

/-- a task that a draw made -/
def DrawnT (v : Value) (w : World) : Prop := ∃ t, TaskV w v t









































































end Go.Proofs.Ytjmpfemlihjibaa
