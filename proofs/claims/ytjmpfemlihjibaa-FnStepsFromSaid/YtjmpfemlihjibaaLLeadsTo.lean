/- The laws FnLeadsTo and FnReached, walked. No condition. -/
import Derived.Test.YtjmpfemlihjibaaD11
import Derived.Test.YtjmpfemlihjibaaG25
import Derived.Test.YtjmpfemlihjibaaA1
import Derived.Test.YtjmpfemlihjibaaRowB
namespace Go.Proofs.Ytjmpfemlihjibaa
open Go.RowKit

theorem leadsTo_cases (t : Sp.Task) : Sp.leadsTo t = -1 ∨ (Sp.taskOk t = true ∧ Sp.leadsTo t = (Sp.leadsN t : Nat)) := by
  unfold Sp.leadsTo
  by_cases h : Sp.taskOk t = true
  · exact .inr ⟨h, by rw [if_pos h]⟩
  · exact .inl (by rw [if_neg h])
theorem reached_cases (t : Sp.Task) : (Sp.taskOk t = false ∧ Sp.reached t = -1) ∨ (Sp.taskOk t = true ∧ Sp.reached t = (Sp.reachedN t : Nat)) := by
  unfold Sp.reached
  cases h : Sp.taskOk t
  · exact .inl ⟨rfl, by simp⟩
  · exact .inr ⟨rfl, by simp⟩






































































end Go.Proofs.Ytjmpfemlihjibaa
