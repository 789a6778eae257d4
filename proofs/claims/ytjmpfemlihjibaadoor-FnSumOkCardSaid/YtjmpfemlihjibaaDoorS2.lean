/- Plain: a set of states by parity has 16 states, or all 32. No program in sight. No condition. -/
import Derived.Test.YtjmpfemlihjibaaDoorHar
import Derived.Test.YtjmpfemlihjibaaDoorMem
namespace Go.Proofs.YtjmpfemlihjibaaDoor

theorem cu_congr (n : Nat) (p q : Nat → Bool) (h : ∀ s, s < n → p s = q s) : Sp.cu n p = Sp.cu n q := by
  induction n with
  | zero => rfl
  | succ n ih =>
    show Sp.cu n p + (if p n = true then 1 else 0) = Sp.cu n q + (if q n = true then 1 else 0)
    rw [ih (fun s hs => h s (by omega)), h n (by omega)]
theorem cu_off (n m : Nat) (p : Nat → Bool) (h : ∀ s, n ≤ s → p s = false) : Sp.cu (n + m) p = Sp.cu n p := by
  induction m with
  | zero => rfl
  | succ m ih =>
    show Sp.cu (n + m) p + (if p (n + m) = true then 1 else 0) = _
    rw [ih, h (n + m) (by omega)]; rfl
theorem par_count : ∀ f : Fin 32, ∀ p : Fin 2, Sp.cu 32 (fun s => (cnt (s &&& f.val) + p.val) % 2 == 0) = if f.val = 0 then (if p.val = 0 then 32 else 0) else 16 := by decide +kernel
set_option maxRecDepth 100000 in
theorem sumSet_count (a f : Nat) (hf : f < 32) : Sp.cu 40 (fun i => (Sp.sumSet a f).testBit i) = if f = 0 then 32 else 16 := by
  have h1 : Sp.cu 40 (fun i => (Sp.sumSet a f).testBit i) = Sp.cu 32 (fun s => (cnt (s &&& f) + cnt (a &&& f) % 2) % 2 == 0) := by
    refine (cu_off 32 8 _ (fun s hs => by unfold Sp.sumSet; rw [Sp.testBit_setOf, decide_eq_false (by omega)]; rfl)).trans ?_
    refine cu_congr 32 _ _ fun s hs => ?_
    unfold Sp.sumSet Sp.even
    rw [Sp.testBit_setOf, decide_eq_true hs, Bool.true_and, Bool.eq_iff_iff, beq_iff_eq, beq_iff_eq]
    omega
  rw [h1]
  have h2 : Sp.cu 32 (fun s => (cnt (s &&& f) + cnt (a &&& f) % 2) % 2 == 0) = if f = 0 then (if cnt (a &&& f) % 2 = 0 then 32 else 0) else 16 := par_count ⟨f, hf⟩ ⟨cnt (a &&& f) % 2, by omega⟩
  rw [h2]
  by_cases h : f = 0
  · subst h
    have : cnt (a &&& 0) = 0 := by rw [Nat.and_zero]; decide +kernel
    rw [this]; rfl
  · rw [if_neg h, if_neg h]
theorem sumSet_start (a f : Nat) (ha : a < 32) : (Sp.sumSet a f).testBit a = true := by
  unfold Sp.sumSet Sp.even
  rw [Sp.testBit_setOf, decide_eq_true ha, Bool.true_and, beq_iff_eq]
  omega

end Go.Proofs.YtjmpfemlihjibaaDoor
