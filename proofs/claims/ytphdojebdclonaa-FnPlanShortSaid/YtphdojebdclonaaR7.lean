/- Walks: SumOk. Walks: SumFor. No condition. -/
import Derived.Test.YtphdojebdclonaaR5
import Derived.Test.YtphdojebdclonaaTake
import Derived.Deep.RegionHeld3
namespace Go.Proofs.Ytphdojebdclonaa
open Go.RowKit

def Sp.upTo (k : Nat) (p : Nat → Bool) : Bool := (List.range k).all p
theorem upTo_succ (k : Nat) (p : Nat → Bool) : Sp.upTo (k + 1) p = (Sp.upTo k p && p k) := by
  unfold Sp.upTo
  rw [List.range_succ, List.all_append]
  simp
theorem upTo_iff (k : Nat) (p : Nat → Bool) : Sp.upTo k p = true ↔ ∀ s, s < k → p s = true := by
  unfold Sp.upTo
  rw [List.all_eq_true]
  exact ⟨fun h s hs => h s (List.mem_range.2 hs), fun h s hs => h s (List.mem_range.1 hs)⟩
theorem upTo_no {k n : Nat} {p : Nat → Bool} (hk : k < n) (h : p k = false) : Sp.upTo n p = false := by
  cases e : Sp.upTo n p
  · rfl
  · rw [(upTo_iff n p).1 e k hk] at h; cases h

def Sp.evenFlip (f : Nat) (d : Sp.Deed) : Bool := !(cnt (d.flip.toNat &&& f) % 2 == 1)
def Sp.apart (t : Sp.Task) (f : Nat) (s : Nat) : Bool := !(Sp.run t.goal s && Sp.even t.start.toNat s f)
def Sp.sumOk (t : Sp.Task) (f : Int) : Bool := Sp.stOk f && Sp.onlyTurns t && t.deeds.all (Sp.evenFlip f.toNat) && Sp.upTo 32 (Sp.apart t f.toNat)

theorem onlyTurns_taskOk {t : Sp.Task} (h : Sp.onlyTurns t = true) : Sp.taskOk t = true := by
  unfold Sp.onlyTurns at h
  simp only [Bool.and_eq_true] at h
  exact h.1

theorem sumOk_no1 {t : Sp.Task} {f : Int} {k : Nat} (h : k < t.deeds.length) (hp : Sp.evenFlip f.toNat (t.deeds.getD k default) = false) : Sp.sumOk t f = false := by
  unfold Sp.sumOk
  rw [all_take_no _ _ k h hp]; simp
theorem sumOk_no2 {t : Sp.Task} {f : Int} {k : Nat} (h : k < 32) (hp : Sp.apart t f.toNat k = false) : Sp.sumOk t f = false := by
  unfold Sp.sumOk
  rw [upTo_no h hp]; simp

theorem flip_b (f : Nat) (d : Sp.Deed) : ((cnt (d.flip.toNat &&& f) : Int) % 2 == 1) = !Sp.evenFlip f d := by
  unfold Sp.evenFlip
  rw [Bool.not_not, Bool.eq_iff_iff, beq_iff_eq, beq_iff_eq]
  omega






































































































































































end Go.Proofs.Ytphdojebdclonaa

namespace Go.Proofs.Ytphdojebdclonaa
open Go.RowKit

def Sp.sumFor (t : Sp.Task) : Option Nat := (List.range 32).find? (fun f => Sp.sumOk t (f : Nat))
def Sp.sumForN (t : Sp.Task) : Int := match Sp.sumFor t with | some f => (f : Nat) | none => -1
def Sp.sumForB (t : Sp.Task) : Bool := (Sp.sumFor t).isSome

theorem find_first {p : Nat → Bool} {n k : Nat} (hk : k < n) (h : p k = true) (hb : ∀ j, j < k → p j = false) : (List.range n).find? p = some k := by
  cases hf : (List.range n).find? p with
  | none =>
    have := List.find?_eq_none.1 hf k (List.mem_range.2 hk)
    simp [h] at this
  | some m =>
    have h1 := List.find?_some hf
    congr 1
    rcases Nat.lt_trichotomy m k with h2 | h2 | h2
    · rw [hb m h2] at h1; cases h1
    · exact h2
    · exfalso
      rw [List.find?_range_eq_some] at hf
      have := hf.2.2 k h2
      rw [h] at this; simp at this
theorem find_none {p : Nat → Bool} {n : Nat} (hb : ∀ j, j < n → p j = false) : (List.range n).find? p = none := by
  rw [List.find?_eq_none]
  intro j hj
  rw [hb j (List.mem_range.1 hj)]; decide

theorem sumFor_yes {t : Sp.Task} {k : Nat} (hk : k < 32) (h : Sp.sumOk t (k : Nat) = true) (hb : ∀ j : Nat, j < k → Sp.sumOk t (j : Nat) = false) : Sp.sumForN t = k ∧ Sp.sumForB t = true := by
  unfold Sp.sumForN Sp.sumForB Sp.sumFor
  rw [find_first (p := fun f => Sp.sumOk t (f : Nat)) hk h hb]
  exact ⟨rfl, rfl⟩
theorem sumFor_no {t : Sp.Task} (hb : ∀ j : Nat, j < 32 → Sp.sumOk t (j : Nat) = false) : Sp.sumForN t = -1 ∧ Sp.sumForB t = false := by
  unfold Sp.sumForN Sp.sumForB Sp.sumFor
  rw [find_none (p := fun f => Sp.sumOk t (f : Nat)) hb]
  exact ⟨rfl, rfl⟩








































end Go.Proofs.Ytphdojebdclonaa
