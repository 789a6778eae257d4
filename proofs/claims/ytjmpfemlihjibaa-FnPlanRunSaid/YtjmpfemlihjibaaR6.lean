/- Walks: SumOk. No condition. -/
import Derived.Test.YtjmpfemlihjibaaR5
import Derived.Test.YtjmpfemlihjibaaTake
import Derived.Deep.RegionHeld3
namespace Go.Proofs.Ytjmpfemlihjibaa
open Go.RowKit

def Sp.upTo (k : Nat) (p : Nat → Bool) : Bool := (List.range k).all p
theorem upTo_succ (k : Nat) (p : Nat → Bool) : Sp.upTo (k + 1) p = (Sp.upTo k p && p k) := by
  unfold Sp.upTo
  rw [List.range_succ, List.all_append]
  simp
theorem upTo_iff (k : Nat) (p : Nat → Bool) : Sp.upTo k p = true ↔ ∀ s, s < k → p s = true := by
  unfold Sp.upTo
  rw [List.all_eq_true]
  exact ⟨fun h s hs => h s (List.mem_range.2 hs), fun h s hs => h s (List.mem_range.1 hs)⟩
theorem upTo_no {k n : Nat} {p : Nat → Bool} (hk : k < n) (h : p k = false) : Sp.upTo n p = false := by
  cases e : Sp.upTo n p
  · rfl
  · rw [(upTo_iff n p).1 e k hk] at h; cases h

def Sp.evenFlip (f : Nat) (d : Sp.Deed) : Bool := !(cnt (d.flip.toNat &&& f) % 2 == 1)
def Sp.apart (t : Sp.Task) (f : Nat) (s : Nat) : Bool := !(Sp.run t.goal s && Sp.even t.start.toNat s f)
def Sp.sumOk (t : Sp.Task) (f : Int) : Bool := Sp.stOk f && Sp.onlyTurns t && t.deeds.all (Sp.evenFlip f.toNat) && Sp.upTo 32 (Sp.apart t f.toNat)

theorem onlyTurns_taskOk {t : Sp.Task} (h : Sp.onlyTurns t = true) : Sp.taskOk t = true := by
  unfold Sp.onlyTurns at h
  simp only [Bool.and_eq_true] at h
  exact h.1

theorem sumOk_no1 {t : Sp.Task} {f : Int} {k : Nat} (h : k < t.deeds.length) (hp : Sp.evenFlip f.toNat (t.deeds.getD k default) = false) : Sp.sumOk t f = false := by
  unfold Sp.sumOk
  rw [all_take_no _ _ k h hp]; simp
theorem sumOk_no2 {t : Sp.Task} {f : Int} {k : Nat} (h : k < 32) (hp : Sp.apart t f.toNat k = false) : Sp.sumOk t f = false := by
  unfold Sp.sumOk
  rw [upTo_no h hp]; simp

theorem flip_b (f : Nat) (d : Sp.Deed) : ((cnt (d.flip.toNat &&& f) : Int) % 2 == 1) = !Sp.evenFlip f d := by
  unfold Sp.evenFlip
  rw [Bool.not_not, Bool.eq_iff_iff, beq_iff_eq, beq_iff_eq]
  omega






































































































































































end Go.Proofs.Ytjmpfemlihjibaa
