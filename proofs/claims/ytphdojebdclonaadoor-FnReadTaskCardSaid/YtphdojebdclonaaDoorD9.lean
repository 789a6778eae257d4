/- Walks: draws of hard tasks. Walks: the draw of FnOnlyTurns, with room told. No condition. -/
import Derived.Test.YtphdojebdclonaaDoorD7
import Derived.Test.YtphdojebdclonaaDoorA3
namespace Go.Proofs.YtphdojebdclonaaDoor
set_option linter.unusedSimpArgs false
set_option linter.unusedVariables false
open Go.RowKit

/-- a task that a draw made -/
def DrawnT (v : Value) (w : World) : Prop := ∃ t, TaskV w v t









































































end Go.Proofs.YtphdojebdclonaaDoor

namespace Go.Proofs.YtphdojebdclonaaDoor
set_option linter.unusedSimpArgs false
set_option linter.unusedVariables false
open Go.RowKit

/-- a task that a draw made: its deeds lie in a slice with room -/
def DrawnC (v : Value) (w : World) : Prop := ∃ t, TaskV w v t ∧ ∀ (A : Option Addr) (n c : Nat) (A' : Option Addr) (n' c' : Nat), v = .agg #[.int .i64 t.start, .slice A n c, .slice A' n' c'] → 0 < n' → n' ≤ c'












































end Go.Proofs.YtphdojebdclonaaDoor
