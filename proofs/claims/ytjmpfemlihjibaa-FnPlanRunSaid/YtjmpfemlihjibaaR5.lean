/- Walks: OnlyTurns. No condition. -/
import Derived.Test.YtjmpfemlihjibaaR4
namespace Go.Proofs.Ytjmpfemlihjibaa
open Go.RowKit

def Sp.turnOk (d : Sp.Deed) : Bool := d.on == 0 && d.off == 0 && Sp.truth d.need == 4294967295
def Sp.onlyTurns (t : Sp.Task) : Bool := Sp.taskOk t && t.deeds.all Sp.turnOk

theorem only_no {t : Sp.Task} {k : Nat} (h : k < t.deeds.length) (hp : Sp.turnOk (t.deeds.getD k default) = false) : Sp.onlyTurns t = false := by
  unfold Sp.onlyTurns
  rw [all_take_no _ _ k h hp, Bool.and_false]

theorem deedOk_need {d : Sp.Deed} (h : Sp.deedOk d = true) : Sp.codeOk d.need = true := by
  unfold Sp.deedOk at h
  simp only [Bool.and_eq_true] at h
  exact h.1.1.1.1.1.1
theorem deedOk_on {d : Sp.Deed} (h : Sp.deedOk d = true) : 0 ≤ d.on ∧ d.on ≤ 31 := by
  unfold Sp.deedOk at h
  simp only [Bool.and_eq_true] at h
  exact st_bd h.1.1.1.1.1.2
theorem deedOk_off {d : Sp.Deed} (h : Sp.deedOk d = true) : 0 ≤ d.off ∧ d.off ≤ 31 := by
  unfold Sp.deedOk at h
  simp only [Bool.and_eq_true] at h
  exact st_bd h.1.1.1.1.2
theorem deedOk_flip {d : Sp.Deed} (h : Sp.deedOk d = true) : 0 ≤ d.flip ∧ d.flip ≤ 31 := by
  unfold Sp.deedOk at h
  simp only [Bool.and_eq_true] at h
  exact st_bd h.1.1.1.2
theorem truth_codeTruth {l : List Int} (h : Sp.codeOk l = true) : Sp.codeTruth l = (Sp.truth l : Nat) := by unfold Sp.codeTruth; rw [if_pos h]
theorem truth_bd (l : List Int) : Sp.truth l < 4294967296 := setOf_bd 32 (Sp.run l) (Nat.le_refl _)




































































































































































































end Go.Proofs.Ytjmpfemlihjibaa
