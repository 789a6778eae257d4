/- Plain: what stays even is never odd. No program in sight. No condition. -/
import Derived.Test.YtjmpfemlihjibaaDoorG34
import Derived.Test.YtjmpfemlihjibaaDoorS2
namespace Go.Proofs.YtjmpfemlihjibaaDoor
open Go.RowKit

theorem sumSet_bit (a f s : Nat) (hs : s < 32) : (Sp.sumSet a f).testBit s = (Sp.par f s == Sp.par f a) := by
  unfold Sp.sumSet
  rw [Sp.testBit_setOf, decide_eq_true hs, Bool.true_and, even_par]
/-- what stays even is never odd -/
theorem sumOk_closed {t : Sp.Task} {q : Int} (h : Sp.sumOk t q = true) : Sp.planThere t = false ∧ Sp.closedOk t (Sp.sumStates t q) = true := by
  have hq : Sp.stOk q = true := by
    unfold Sp.sumOk at h
    simp only [Bool.and_eq_true] at h
    exact h.1.1.1
  have hq2 := hq
  unfold Sp.stOk at hq2
  simp only [decide_eq_true_eq] at hq2
  obtain ⟨f, rfl⟩ := Int.eq_ofNat_of_zero_le hq2.1
  obtain ⟨h1, h2, h3⟩ := sumOk_parts h
  have hto := onlyTurns_taskOk h1
  have hst := start_lt hto
  refine ⟨sumOk_none h, ?_⟩
  have hl : Sp.sumSet t.start.toNat f < 4294967296 := setOf_bd 32 _ (Nat.le_refl _)
  have hset : Sp.setOk ((Sp.sumSet t.start.toNat f : Nat) : Int) = true := by unfold Sp.setOk; simp; omega
  unfold Sp.sumStates
  rw [if_pos ⟨hto, hq⟩, Int.toNat_natCast]
  unfold Sp.closedOk
  have hi : Sp.img (Sp.rel t) (Sp.sumSet t.start.toNat f) &&& Sp.sumSet t.start.toNat f = Sp.img (Sp.rel t) (Sp.sumSet t.start.toNat f) := by
    refine Sp.set_ext (Nat.lt_of_le_of_lt Nat.and_le_left (Sp.img_lt _ _)) (Sp.img_lt _ _) fun u hu => ?_
    rw [Nat.testBit_and, Bool.and_eq_true]
    refine ⟨fun h => h.1, fun h => ⟨h, ?_⟩⟩
    obtain ⟨_, s, hs, h4, h5⟩ := (Sp.img_bit _ _ _).1 h
    obtain ⟨k, hk, h6⟩ := (rel_iff t s u hs).1 h5
    have hD := only_deed h1 hk
    have e := turn_step hD.2 hs
    have hf := h2 _ (show t.deeds.getD k default ∈ t.deeds by simp only [List.getD_eq_getElem?_getD, List.getElem?_eq_getElem hk, Option.getD_some]; exact List.getElem_mem _)
    have eu : u = s ^^^ (t.deeds.getD k default).flip.toNat := by omega
    rw [sumSet_bit _ _ _ hs] at h4
    rw [sumSet_bit _ _ _ hu, eu, par_xor, hf, beq_iff_eq]
    rw [beq_iff_eq] at h4
    have := par_two f s
    omega
  have hz : Sp.sumSet t.start.toNat f &&& Sp.truth t.goal = 0 := by
    refine Sp.set_ext (Nat.lt_of_le_of_lt Nat.and_le_left hl) (by decide) fun s hs => ?_
    rw [Nat.testBit_and, Bool.and_eq_true, Nat.zero_testBit]
    refine ⟨fun h4 => ?_, fun h4 => by cases h4⟩
    rw [sumSet_bit _ _ _ hs, beq_iff_eq, truth_run _ hs] at h4
    exact absurd h4.1 (h3 s hs h4.2)
  rw [hto, hset, Int.toNat_natCast, sumSet_start _ _ hst, decide_eq_true hi, decide_eq_true hz]; rfl

end Go.Proofs.YtjmpfemlihjibaaDoor
