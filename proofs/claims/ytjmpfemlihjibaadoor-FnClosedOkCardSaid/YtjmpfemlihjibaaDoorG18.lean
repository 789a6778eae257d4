/- Walks: OnWay. No condition. -/
import Derived.Test.YtjmpfemlihjibaaDoorG17
import Derived.Test.YtjmpfemlihjibaaDoorG11
import Derived.Deep.RegionHeld3
import Derived.Test.YtjmpfemlihjibaaDoorTake
namespace Go.Proofs.YtjmpfemlihjibaaDoor
open Go.RowKit

/-- how far a state is from the Start -/
def Sp.gone (t : Sp.Task) (s : Nat) : Int := Sp.dist (Sp.rel t) (2 ^ t.start.toNat) s
theorem gone_bd {t : Sp.Task} (hok : Sp.taskOk t = true) {s : Nat} (hs : s < 32) : -1 ≤ Sp.gone t s ∧ Sp.gone t s ≤ 31 := by
  obtain ⟨h0, h1⟩ := Sp.taskOk_start hok
  exact dist_bd (Nat.pow_lt_pow_right (by decide) (by omega)) s hs
def Sp.wayB (t : Sp.Task) (s : Nat) : Bool := decide (0 ≤ Sp.gone t s) && decide (0 ≤ Sp.toGo t s) && (Sp.gone t s + Sp.toGo t s == Sp.toGo t t.start.toNat)
def Sp.onWay (t : Sp.Task) : Int := if Sp.taskOk t = true then (Sp.setOf 32 (Sp.wayB t) : Nat) else -1
theorem stepsFrom_yes {t : Sp.Task} (h : Sp.taskOk t = true) : (Sp.stepsFrom t).length = 32 ∧ ∀ s, s < 32 → (Sp.stepsFrom t).getD s default = Sp.gone t s := by
  unfold Sp.stepsFrom
  rw [if_pos h]
  exact ⟨distList_len _ _, fun s hs => distList_at _ _ s hs⟩
theorem stepsLeast_yes {t : Sp.Task} (h : Sp.taskOk t = true) : (Sp.stepsLeast t).length = 32 ∧ ∀ s, s < 32 → (Sp.stepsLeast t).getD s default = Sp.toGo t s := by
  unfold Sp.stepsLeast
  rw [if_pos h]
  exact ⟨distList_len _ _, fun s hs => distList_at _ _ s hs⟩
/-- a list of 32 integers that a call made, as a row -/
theorem OI.row32 {B C : Nat} {w : World} {A : Option Addr} {l : List Int} {f : Nat → Int} (h : OI B C w A l) (hl : l.length = 32) (hf : ∀ s, s < 32 → l.getD s default = f s) : ∃ g, A = some ⟨g, 0, none⟩ ∧ B ≤ g ∧ IntRow w g 32 f := by
  obtain ⟨g, e, h1, _, hw⟩ := h.2 (by omega)
  have := hw.row (by omega)
  rw [hl] at this
  exact ⟨g, e, h1, this.congr hf⟩


































































































































































































end Go.Proofs.YtjmpfemlihjibaaDoor
