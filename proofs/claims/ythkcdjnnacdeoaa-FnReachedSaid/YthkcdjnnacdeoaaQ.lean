/- Plain: sums, the only end. Small lemmas for walks. No condition. -/
import Derived.Test.YthkcdjnnacdeoaaHar4
namespace Go.Proofs.Ythkcdjnnacdeoaa
open Go.RowKit

theorem TaskV.form {w : World} {v : Value} {t : Sp.Task} (h : TaskV w v t) : ∃ A n c A' n' c', v = .agg #[.int .i64 t.start, .slice A n c, .slice A' n' c'] := by
  obtain ⟨A, n, c, A', n', c', e, _⟩ := h
  exact ⟨A, n, c, A', n', c', e⟩

/-- a callee that leaves the world, inside a region that draws -/
theorem quiet_ret {P : Program} {f : FuncId} {args : Array Value} {w : World} {n : Nat} {v : Value} (h : Calls P f args (w.drewN n) (Ret v (w.drewN n))) :
    Calls P f args (w.drewN n) fun e w'' => e = .returned v ∧ ∃ m, w'' = w.drewN m :=
  h.mono fun _ _ ⟨he, hm⟩ => ⟨he, n, hm.symm⟩

def Sp.even (a s f : Nat) : Bool := (cnt (s &&& f) + cnt (a &&& f)) % 2 == 0
def Sp.sumSet (a f : Nat) : Nat := Sp.setOf 32 (fun s => Sp.even a s f)
def Sp.sumStates (t : Sp.Task) (f : Int) : Int := if Sp.taskOk t = true ∧ Sp.stOk f = true then (Sp.sumSet t.start.toNat f.toNat : Nat) else -1

theorem Sp.taskOk_start {t : Sp.Task} (h : Sp.taskOk t = true) : 0 ≤ t.start ∧ t.start ≤ 31 := by
  unfold Sp.taskOk at h
  simp only [Bool.and_eq_true] at h
  exact st_bd h.1.1.1
theorem Sp.taskOk_goal {t : Sp.Task} (h : Sp.taskOk t = true) : Sp.codeOk t.goal = true := by
  unfold Sp.taskOk at h
  simp only [Bool.and_eq_true] at h
  exact h.1.1.2
theorem Sp.taskOk_len {t : Sp.Task} (h : Sp.taskOk t = true) : t.deeds.length ≤ 6 := by
  unfold Sp.taskOk at h
  simp only [Bool.and_eq_true, decide_eq_true_eq] at h
  exact h.1.2
theorem Sp.taskOk_deed {t : Sp.Task} (h : Sp.taskOk t = true) {k : Nat} (hk : k < t.deeds.length) : Sp.deedOk (t.deeds.getD k default) = true := by
  unfold Sp.taskOk at h
  simp only [Bool.and_eq_true, List.all_eq_true] at h
  apply h.2
  simp only [List.getD_eq_getElem?_getD, List.getElem?_eq_getElem hk, Option.getD_some]
  exact List.getElem_mem _

theorem setOf_step_yes (n : Nat) (f : Nat → Bool) (h : f n = true) : Sp.setOf (n + 1) f = Sp.setOf n f + 2 ^ n := by simp [Sp.setOf, h]
theorem setOf_step_no (n : Nat) (f : Nat → Bool) (h : f n = false) : Sp.setOf (n + 1) f = Sp.setOf n f := by simp [Sp.setOf, h]
theorem even_b (a s f : Nat) : (((cnt (s &&& f) : Int) + (cnt (a &&& f) : Int)) % 2 == 0) = Sp.even a s f := by
  unfold Sp.even
  rw [Bool.eq_iff_iff, beq_iff_eq, beq_iff_eq]
  omega
theorem even_b2 (a s f : Nat) : ((cnt (s &&& f) : Int) % 2 == (cnt (a &&& f) : Int) % 2) = Sp.even a s f := by
  unfold Sp.even
  rw [Bool.eq_iff_iff, beq_iff_eq, beq_iff_eq]
  omega
theorem setOf_step (n : Nat) (f : Nat → Bool) (_hn : n < 32) :
    (f n = true → ((Sp.setOf (n + 1) f : Nat) : Int) = (Sp.setOf n f : Nat) + p2 n) ∧ (f n = true → Sp.setOf n f ||| 2 ^ n = Sp.setOf (n + 1) f) ∧ (f n = false → Sp.setOf (n + 1) f = Sp.setOf n f) := by
  refine ⟨fun h => ?_, fun h => Sp.setOf_or n f h, setOf_step_no n f⟩
  rw [setOf_step_yes n f h, p2_nat]; simp
theorem setOf_bd (n : Nat) (f : Nat → Bool) (hn : n ≤ 32) : Sp.setOf n f < 4294967296 := by
  have h1 := Sp.setOf_lt n f
  have h2 : 2 ^ n ≤ 2 ^ 32 := Nat.pow_le_pow_right (by decide) hn
  omega
theorem p2_bd32 (k : Nat) (h : k ≤ 32) : 1 ≤ p2 k ∧ p2 k ≤ 4294967296 := by
  have h1 := p2_bd k 32 h
  have h2 := p2_nat 32
  rw [show ((2 ^ 32 : Nat) : Int) = 4294967296 from rfl] at h2
  omega

theorem or_p2 (s k : Nat) (hs : s < 4294967296) (hk : k < 32) : bits .or .i64 (s : Int) (p2 k) = ((s ||| 2 ^ k : Nat) : Int) := by
  rw [p2_nat]
  exact i64_or_nat s (2 ^ k) (by omega) (by have : 2 ^ k ≤ 2 ^ 32 := Nat.pow_le_pow_right (by decide) (by omega)
                                            omega)
theorem and_nat_int (k : Nat) (f : Int) (hk : k < 4294967296) (h0 : 0 ≤ f) (h1 : f ≤ 4294967296) : bits .and .i64 (k : Int) f = ((k &&& f.toNat : Nat) : Int) := by
  have := i64_and k f (by omega) (by omega) h0 (by omega)
  rwa [Int.toNat_natCast] at this

end Go.Proofs.Ythkcdjnnacdeoaa
