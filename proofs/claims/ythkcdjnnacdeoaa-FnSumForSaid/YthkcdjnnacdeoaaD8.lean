/- Walks: draws of hard tasks. No condition. -/
import Derived.Test.YthkcdjnnacdeoaaD7
import Derived.Test.YthkcdjnnacdeoaaA3
namespace Go.Proofs.Ythkcdjnnacdeoaa
open Go.RowKit

/-- a task that a draw made -/
def DrawnT (v : Value) (w : World) : Prop := ∃ t, TaskV w v t









































































end Go.Proofs.Ythkcdjnnacdeoaa
