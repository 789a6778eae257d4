/- The law FnReached, walked. No condition. -/
import Derived.Test.YtjmpfemlihjibaaLLeadsTo
import Derived.Test.YtjmpfemlihjibaaTake
import Derived.Test.YtjmpfemlihjibaaA4
namespace Go.Proofs.Ytjmpfemlihjibaa
open Go.RowKit

theorem start_reached {t : Sp.Task} (_h : Sp.taskOk t = true) : (Sp.reachedN t).testBit t.start.toNat = true :=
  Sp.rch_mono (n := 0) (Nat.zero_le _) _ (by show (2 ^ t.start.toNat).testBit t.start.toNat = true; rw [Nat.testBit_two_pow]; simp)
theorem reached_meet {t : Sp.Task} (h : Sp.taskOk t = true) : decide ((0 : Int) < ((Sp.reachedN t &&& Sp.truth t.goal : Nat) : Int)) = (Sp.leadsN t).testBit t.start.toNat := by
  have h1 := meet_all (Sp.rel t) (start_lt h) (truth_bd t.goal)
  rw [Bool.eq_iff_iff, decide_eq_true_eq]
  refine Iff.trans ?_ h1
  have h2 := and_pos (a := Sp.reachedN t) (b := Sp.truth t.goal) (reachedN_lt h)
  exact Iff.trans (by omega) h2













































































































end Go.Proofs.Ytjmpfemlihjibaa
