/- Walks: SumFor. No condition. -/
import Derived.Test.YtjmpfemlihjibaaR6
namespace Go.Proofs.Ytjmpfemlihjibaa
open Go.RowKit

def Sp.sumFor (t : Sp.Task) : Option Nat := (List.range 32).find? (fun f => Sp.sumOk t (f : Nat))
def Sp.sumForN (t : Sp.Task) : Int := match Sp.sumFor t with | some f => (f : Nat) | none => -1
def Sp.sumForB (t : Sp.Task) : Bool := (Sp.sumFor t).isSome

theorem find_first {p : Nat → Bool} {n k : Nat} (hk : k < n) (h : p k = true) (hb : ∀ j, j < k → p j = false) : (List.range n).find? p = some k := by
  cases hf : (List.range n).find? p with
  | none =>
    have := List.find?_eq_none.1 hf k (List.mem_range.2 hk)
    simp [h] at this
  | some m =>
    have h1 := List.find?_some hf
    congr 1
    rcases Nat.lt_trichotomy m k with h2 | h2 | h2
    · rw [hb m h2] at h1; cases h1
    · exact h2
    · exfalso
      rw [List.find?_range_eq_some] at hf
      have := hf.2.2 k h2
      rw [h] at this; simp at this
theorem find_none {p : Nat → Bool} {n : Nat} (hb : ∀ j, j < n → p j = false) : (List.range n).find? p = none := by
  rw [List.find?_eq_none]
  intro j hj
  rw [hb j (List.mem_range.1 hj)]; decide

theorem sumFor_yes {t : Sp.Task} {k : Nat} (hk : k < 32) (h : Sp.sumOk t (k : Nat) = true) (hb : ∀ j : Nat, j < k → Sp.sumOk t (j : Nat) = false) : Sp.sumForN t = k ∧ Sp.sumForB t = true := by
  unfold Sp.sumForN Sp.sumForB Sp.sumFor
  rw [find_first (p := fun f => Sp.sumOk t (f : Nat)) hk h hb]
  exact ⟨rfl, rfl⟩
theorem sumFor_no {t : Sp.Task} (hb : ∀ j : Nat, j < 32 → Sp.sumOk t (j : Nat) = false) : Sp.sumForN t = -1 ∧ Sp.sumForB t = false := by
  unfold Sp.sumForN Sp.sumForB Sp.sumFor
  rw [find_none (p := fun f => Sp.sumOk t (f : Nat)) hb]
  exact ⟨rfl, rfl⟩








































end Go.Proofs.Ytjmpfemlihjibaa
