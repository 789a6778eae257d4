/- The law FnStepsLeast, walked. No condition. -/
import Derived.Test.YtjmpfemlihjibaaLReached
import Derived.Test.YtjmpfemlihjibaaLOnlyTurns
import Derived.Test.YtjmpfemlihjibaaA5
import Derived.Test.YtjmpfemlihjibaaG11
namespace Go.Proofs.Ytjmpfemlihjibaa
open Go.RowKit

/-- whether one of the first k deeds is a step nearer, or there is none to go -/
def Sp.nearer (t : Sp.Task) (j k : Nat) : Bool := decide (Sp.toGo t j ≤ 0) || Sp.ex k (Sp.hit t j)
theorem nearer_zero (t : Sp.Task) (j : Nat) : Sp.nearer t j 0 = decide (Sp.toGo t j ≤ 0) := by unfold Sp.nearer Sp.ex; simp
theorem nearer_end {t : Sp.Task} (hok : Sp.taskOk t = true) {j : Nat} (hj : j < 32) : Sp.nearer t j t.deeds.length = true := by
  unfold Sp.nearer
  by_cases h : Sp.toGo t j ≤ 0
  · simp [h]
  · obtain ⟨k, hk, h2⟩ := hit_some hok hj (by omega)
    rw [(Sp.ex_iff _ _).2 ⟨k, hk, h2⟩]; simp
theorem nearer_no {t : Sp.Task} {j k : Nat} (h : Sp.stepI (t.deeds.getD k default) j < 0) : Sp.nearer t j (k + 1) = Sp.nearer t j k := by
  unfold Sp.nearer
  show (_ || (Sp.ex k _ || Sp.hit t j k)) = _
  have : Sp.hit t j k = false := by unfold Sp.hit; rw [decide_eq_false (by omega)]; rfl
  rw [this, Bool.or_false]
theorem nearer_far {t : Sp.Task} {j k u : Nat} (h : Sp.stepI (t.deeds.getD k default) j = (u : Int)) (hu : Sp.toGo t u = -1) : Sp.nearer t j (k + 1) = Sp.nearer t j k := by
  unfold Sp.nearer
  show (_ || (Sp.ex k _ || Sp.hit t j k)) = _
  unfold Sp.hit
  rw [h, Int.toNat_natCast, hu]
  by_cases h2 : Sp.toGo t j = 0
  · rw [decide_eq_true (by omega : Sp.toGo t j ≤ 0)]; rfl
  · have : (((-1 : Int)) == Sp.toGo t j - 1) = false := beq_eq_false_iff_ne.2 (by omega)
    rw [this]; simp
theorem nearer_one {t : Sp.Task} {j k u : Nat} (h : Sp.stepI (t.deeds.getD k default) j = (u : Int)) : Sp.nearer t j (k + 1) = (Sp.nearer t j k || (Sp.toGo t u == Sp.toGo t j - 1)) := by
  unfold Sp.nearer
  show (_ || (Sp.ex k _ || Sp.hit t j k)) = _
  have : Sp.hit t j k = (Sp.toGo t u == Sp.toGo t j - 1) := by unfold Sp.hit; rw [h, Int.toNat_natCast, decide_eq_true (by omega)]; simp
  rw [this, Bool.or_assoc]
/-- behind a deed the number is the one before, less 1, or greater -/
theorem toGo_edge {t : Sp.Task} (hok : Sp.taskOk t = true) {j k u : Nat} (hj : j < 32) (hk : k < t.deeds.length) (h : Sp.stepI (t.deeds.getD k default) j = (u : Int)) (hu : 0 ≤ Sp.toGo t u) : 0 ≤ Sp.toGo t j ∧ Sp.toGo t j ≤ Sp.toGo t u + 1 := by
  have hb := stepI_bd hj (Sp.taskOk_deed hok hk)
  exact dist_edge (rel := Sp.relB t) (truth_bd _) (show u < 32 by omega) hj hu ((rel_iff t j u hj).2 ⟨k, hk, h⟩)
theorem toGo_leads {t : Sp.Task} {j : Nat} (hj : j < 32) : decide (0 ≤ Sp.toGo t j) = (Sp.leadsN t).testBit j := by
  rw [Bool.eq_iff_iff, decide_eq_true_eq]
  exact dist_iff (truth_bd _) hj
theorem toGo_zero {t : Sp.Task} {j : Nat} (hj : j < 32) : Sp.run t.goal j = decide (Sp.toGo t j = 0) := by
  rw [Bool.eq_iff_iff, decide_eq_true_eq]
  refine Iff.trans ?_ (dist_zero_iff (rel := Sp.relB t) (truth_bd _) hj).symm
  unfold Sp.truth
  rw [Sp.testBit_setOf]
  simp [hj]


























































































































































































































end Go.Proofs.Ytjmpfemlihjibaa
