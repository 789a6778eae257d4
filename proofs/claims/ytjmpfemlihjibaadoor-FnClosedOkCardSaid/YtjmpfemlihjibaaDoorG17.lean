/- Walks: ShadowBound. No condition. -/
import Derived.Test.YtjmpfemlihjibaaDoorG16
import Derived.Test.YtjmpfemlihjibaaDoorTake
namespace Go.Proofs.YtjmpfemlihjibaaDoor
open Go.RowKit

def Sp.shadowBound (t : Sp.Task) (q : Int) : Int := if Sp.taskOk t = true ∧ Sp.stOk q = true then Sp.dist (Sp.relS t q.toNat) (Sp.endS t q.toNat) t.start.toNat else -1
theorem shadowSteps_yes {t : Sp.Task} {q : Int} (h1 : Sp.taskOk t = true) (h2 : Sp.stOk q = true) : (Sp.shadowSteps t q).length = 32 ∧ (Sp.shadowSteps t q).getD t.start.toNat default = Sp.shadowBound t q := by
  obtain ⟨hs0, hs1⟩ := Sp.taskOk_start h1
  unfold Sp.shadowSteps Sp.shadowBound
  rw [if_pos ⟨h1, h2⟩, if_pos ⟨h1, h2⟩, distList_at _ _ _ (by omega)]
  exact ⟨distList_len _ _, rfl⟩
/-- a cell of a list that a call made -/
theorem OI.cell {B C : Nat} {w : World} {A : Option Addr} {l : List Int} (h : OI B C w A l) {k : Nat} (hk : k < l.length) : ∃ g, A = some ⟨g, 0, none⟩ ∧ w.cell? ⟨g, k, none⟩ = some (.int .i64 (l.getD k default)) := by
  obtain ⟨g, e, _, _, hw⟩ := h.2 (by omega)
  exact ⟨g, e, (hw.row (by omega)).2.2 k hk⟩


































































































end Go.Proofs.YtjmpfemlihjibaaDoor
