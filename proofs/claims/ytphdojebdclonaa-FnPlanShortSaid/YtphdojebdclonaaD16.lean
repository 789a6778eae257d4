/- Walks: the draws of a task and a plan (FnPlanOk, FnPlanRun). No condition. -/
import Derived.Test.YtphdojebdclonaaD15
import Derived.Test.YtphdojebdclonaaG22
namespace Go.Proofs.Ytphdojebdclonaa
open Go.RowKit

/-- a task and a plan that a draw made -/
def DrawnP (v : Value) (w : World) : Prop := ∃ tv t A m c l, v = .tuple #[tv, .slice A m c] ∧ TaskV w tv t ∧ Ints w A m l
/-- a task, a state and a plan that a draw made -/
def DrawnR (v : Value) (w : World) : Prop := ∃ tv t s A m c l, v = .tuple #[tv, .int .i64 s, .slice A m c] ∧ TaskV w tv t ∧ Ints w A m l




























































































end Go.Proofs.Ytphdojebdclonaa
