/- The law FnGoalOne, walked. No condition. -/
import Derived.Test.YthkcdjnnacdeoaaD8
import Derived.Test.YthkcdjnnacdeoaaA1
import Derived.Test.YthkcdjnnacdeoaaRowB
import Derived.Deep.RegionHeld3
namespace Go.Proofs.Ythkcdjnnacdeoaa
open Go.RowKit

theorem goalOne_cases (t : Sp.Task) : Sp.goalOne t = -1 ∨ (Sp.taskOk t = true ∧ ∃ k : Nat, k < 32 ∧ Sp.goalOne t = k ∧ Sp.truth t.goal = 2 ^ k) := by
  unfold Sp.goalOne
  by_cases h : Sp.taskOk t = true
  · rw [if_pos h]
    unfold Sp.oneOf
    cases hf : (List.range 32).find? (fun s => Sp.setOf 32 (Sp.run t.goal) == 2 ^ s) with
    | none => exact .inl rfl
    | some s =>
      have h1 := List.find?_some hf
      have h2 := List.mem_range.1 (List.mem_of_find?_eq_some hf)
      have h3 : Sp.setOf 32 (Sp.run t.goal) = 2 ^ s := by simpa using h1
      exact .inr ⟨h, s, h2, rfl, h3⟩
  · rw [if_neg h]; exact .inl rfl

























































end Go.Proofs.Ythkcdjnnacdeoaa
