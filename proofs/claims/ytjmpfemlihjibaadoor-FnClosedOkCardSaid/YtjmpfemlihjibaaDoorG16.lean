/- Walks: ShadowNumbers, ShadowBound. No condition. -/
import Derived.Test.YtjmpfemlihjibaaDoorG12
import Derived.Test.YtjmpfemlihjibaaDoorG15
namespace Go.Proofs.YtjmpfemlihjibaaDoor
open Go.RowKit

def Sp.shadowNumbers (t : Sp.Task) (q : Int) : List Int := (Sp.shadowSteps t q).map Sp.big
theorem shadowNumbers_len (t : Sp.Task) (q : Int) : (Sp.shadowNumbers t q).length ≤ 1073741824 := by unfold Sp.shadowNumbers; rw [List.length_map]; exact shadowSteps_len t q
theorem shadowSteps_in (t : Sp.Task) (q : Int) : ∀ x ∈ Sp.shadowSteps t q, Sp.inI x := by
  intro x hx
  unfold Sp.shadowSteps at hx
  split at hx
  · exact distList_in _ _ (endS_lt _ _) x hx
  · cases hx
theorem outInts_up {w w1 w2 : World} {l : List Int} {v : Value} (h : OutInts w1 l v w2) (hk : w.heap.size ≤ w1.heap.size) : OutInts w l v w2 := by
  obtain ⟨A, c, rfl, hI, hO⟩ := h
  exact ⟨A, c, rfl, hI, fun h0 => by obtain ⟨g, h1, h2, h3⟩ := hO h0; exact ⟨g, h1, Nat.le_trans hk h2, h3⟩⟩




























































































end Go.Proofs.YtjmpfemlihjibaaDoor
