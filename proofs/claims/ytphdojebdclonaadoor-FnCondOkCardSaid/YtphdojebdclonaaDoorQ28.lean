/- Joined texts. No condition. -/
import Derived.Deep.RegionHeld3
import Derived.Test.YtphdojebdclonaaDoorQ25
import Derived.Test.YtphdojebdclonaaDoorQ27
import Derived.Test.YtphdojebdclonaaDoorQ9
import Derived.Test.YtphdojebdclonaaDoorQ20
/- Walks: ShadowNumbers, ShadowBound. Walks: ShadowBound. Walks: OnWay. No condition. -/
namespace Go.Proofs.YtphdojebdclonaaDoor
set_option linter.unusedSimpArgs false
set_option linter.unusedVariables false
open Go.RowKit

def Sp.shadowNumbers (t : Sp.Task) (q : Int) : List Int := (Sp.shadowSteps t q).map Sp.big
theorem shadowNumbers_len (t : Sp.Task) (q : Int) : (Sp.shadowNumbers t q).length ≤ 1073741824 := by unfold Sp.shadowNumbers; rw [List.length_map]; exact shadowSteps_len t q
theorem shadowSteps_in (t : Sp.Task) (q : Int) : ∀ x ∈ Sp.shadowSteps t q, Sp.inI x := by
  intro x hx
  unfold Sp.shadowSteps at hx
  split at hx
  · exact distList_in _ _ (endS_lt _ _) x hx
  · cases hx
theorem outInts_up {w w1 w2 : World} {l : List Int} {v : Value} (h : OutInts w1 l v w2) (hk : w.heap.size ≤ w1.heap.size) : OutInts w l v w2 := by
  obtain ⟨A, c, rfl, hI, hO⟩ := h
  exact ⟨A, c, rfl, hI, fun h0 => by obtain ⟨g, h1, h2, h3⟩ := hO h0; exact ⟨g, h1, Nat.le_trans hk h2, h3⟩⟩




























































































end Go.Proofs.YtphdojebdclonaaDoor

namespace Go.Proofs.YtphdojebdclonaaDoor
set_option linter.unusedSimpArgs false
set_option linter.unusedVariables false
open Go.RowKit

def Sp.shadowBound (t : Sp.Task) (q : Int) : Int := if Sp.taskOk t = true ∧ Sp.stOk q = true then Sp.dist (Sp.relS t q.toNat) (Sp.endS t q.toNat) t.start.toNat else -1
theorem shadowSteps_yes {t : Sp.Task} {q : Int} (h1 : Sp.taskOk t = true) (h2 : Sp.stOk q = true) : (Sp.shadowSteps t q).length = 32 ∧ (Sp.shadowSteps t q).getD t.start.toNat default = Sp.shadowBound t q := by
  obtain ⟨hs0, hs1⟩ := Sp.taskOk_start h1
  unfold Sp.shadowSteps Sp.shadowBound
  rw [if_pos ⟨h1, h2⟩, if_pos ⟨h1, h2⟩, distList_at _ _ _ (by omega)]
  exact ⟨distList_len _ _, rfl⟩
/-- a cell of a list that a call made -/
theorem OI.cell {B C : Nat} {w : World} {A : Option Addr} {l : List Int} (h : OI B C w A l) {k : Nat} (hk : k < l.length) : ∃ g, A = some ⟨g, 0, none⟩ ∧ w.cell? ⟨g, k, none⟩ = some (.int .i64 (l.getD k default)) := by
  obtain ⟨g, e, _, _, hw⟩ := h.2 (by omega)
  exact ⟨g, e, (hw.row (by omega)).2.2 k hk⟩


































































































end Go.Proofs.YtphdojebdclonaaDoor

namespace Go.Proofs.YtphdojebdclonaaDoor
set_option linter.unusedSimpArgs false
set_option linter.unusedVariables false
open Go.RowKit

/-- how far a state is from the Start -/
def Sp.gone (t : Sp.Task) (s : Nat) : Int := Sp.dist (Sp.rel t) (2 ^ t.start.toNat) s
theorem gone_bd {t : Sp.Task} (hok : Sp.taskOk t = true) {s : Nat} (hs : s < 32) : -1 ≤ Sp.gone t s ∧ Sp.gone t s ≤ 31 := by
  obtain ⟨h0, h1⟩ := Sp.taskOk_start hok
  exact dist_bd (Nat.pow_lt_pow_right (by decide) (by omega)) s hs
def Sp.wayB (t : Sp.Task) (s : Nat) : Bool := decide (0 ≤ Sp.gone t s) && decide (0 ≤ Sp.toGo t s) && (Sp.gone t s + Sp.toGo t s == Sp.toGo t t.start.toNat)
def Sp.onWay (t : Sp.Task) : Int := if Sp.taskOk t = true then (Sp.setOf 32 (Sp.wayB t) : Nat) else -1
theorem stepsFrom_yes {t : Sp.Task} (h : Sp.taskOk t = true) : (Sp.stepsFrom t).length = 32 ∧ ∀ s, s < 32 → (Sp.stepsFrom t).getD s default = Sp.gone t s := by
  unfold Sp.stepsFrom
  rw [if_pos h]
  exact ⟨distList_len _ _, fun s hs => distList_at _ _ s hs⟩
theorem stepsLeast_yes {t : Sp.Task} (h : Sp.taskOk t = true) : (Sp.stepsLeast t).length = 32 ∧ ∀ s, s < 32 → (Sp.stepsLeast t).getD s default = Sp.toGo t s := by
  unfold Sp.stepsLeast
  rw [if_pos h]
  exact ⟨distList_len _ _, fun s hs => distList_at _ _ s hs⟩
/-- a list of 32 integers that a call made, as a row -/
theorem OI.row32 {B C : Nat} {w : World} {A : Option Addr} {l : List Int} {f : Nat → Int} (h : OI B C w A l) (hl : l.length = 32) (hf : ∀ s, s < 32 → l.getD s default = f s) : ∃ g, A = some ⟨g, 0, none⟩ ∧ B ≤ g ∧ IntRow w g 32 f := by
  obtain ⟨g, e, h1, _, hw⟩ := h.2 (by omega)
  have := hw.row (by omega)
  rw [hl] at this
  exact ⟨g, e, h1, this.congr hf⟩


































































































































































































end Go.Proofs.YtphdojebdclonaaDoor
