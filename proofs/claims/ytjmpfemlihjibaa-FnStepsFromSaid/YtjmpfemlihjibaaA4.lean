/- The law FnStatesNext, walked. No condition. -/
import Derived.Test.YtjmpfemlihjibaaA3
import Derived.Test.YtjmpfemlihjibaaRowB
namespace Go.Proofs.Ytjmpfemlihjibaa
open Go.RowKit

theorem img_or (r : Nat → Nat → Bool) (A B : Nat) : Sp.img r (A ||| B) = Sp.img r A ||| Sp.img r B := by
  refine Sp.set_ext (Sp.img_lt _ _) (Sp.or_lt (Sp.img_lt _ _) (Sp.img_lt _ _)) fun s hs => ?_
  rw [Nat.testBit_or, Bool.or_eq_true, Sp.img_bit, Sp.img_bit, Sp.img_bit]
  constructor
  · rintro ⟨_, s0, h0, h1, h2⟩
    rw [Nat.testBit_or, Bool.or_eq_true] at h1
    rcases h1 with h1 | h1
    · exact .inl ⟨hs, s0, h0, h1, h2⟩
    · exact .inr ⟨hs, s0, h0, h1, h2⟩
  · rintro (⟨_, s0, h0, h1, h2⟩ | ⟨_, s0, h0, h1, h2⟩)
    · exact ⟨hs, s0, h0, by rw [Nat.testBit_or, h1]; rfl, h2⟩
    · exact ⟨hs, s0, h0, by rw [Nat.testBit_or, h1]; simp, h2⟩
theorem and_add_or (a : Nat) : ∀ b, (a &&& b) + (a ||| b) = a + b := by
  induction a using Nat.strongRecOn with
  | _ a ih =>
    intro b
    by_cases h : a = 0
    · subst h; simp
    · have h1 := ih (a / 2) (by omega) (b / 2)
      have e1 : (a &&& b) / 2 = (a / 2) &&& (b / 2) := by
        refine Nat.eq_of_testBit_eq fun i => ?_
        simp [Nat.testBit_div_two]
      have e2 : (a ||| b) / 2 = (a / 2) ||| (b / 2) := by
        refine Nat.eq_of_testBit_eq fun i => ?_
        simp [Nat.testBit_div_two]
      have e3 : (a &&& b) % 2 + (a ||| b) % 2 = a % 2 + b % 2 := by
        have t1 := Nat.testBit_and a b 0
        have t2 := Nat.testBit_or a b 0
        simp only [Nat.testBit_zero] at t1 t2
        rcases Nat.mod_two_eq_zero_or_one a with ha | ha <;> rcases Nat.mod_two_eq_zero_or_one b with hb | hb <;> rcases Nat.mod_two_eq_zero_or_one (a &&& b) with hc | hc <;> rcases Nat.mod_two_eq_zero_or_one (a ||| b) with hd | hd <;> simp [ha, hb, hc, hd] at t1 t2 ⊢
      omega
theorem and_pos {a b : Nat} (ha : a < 2 ^ 32) : a &&& b ≠ 0 ↔ ∃ s, s < 32 ∧ a.testBit s = true ∧ b.testBit s = true := by
  constructor
  · intro h
    obtain ⟨s, hs, hb⟩ := Sp.nonzero_bit (Nat.lt_of_le_of_lt Nat.and_le_left ha) h
    rw [Nat.testBit_and, Bool.and_eq_true] at hb
    exact ⟨s, hs, hb.1, hb.2⟩
  · rintro ⟨s, _, h1, h2⟩ h
    have := Nat.testBit_and a b s
    rw [h, h1, h2] at this
    simp at this
theorem img_meet (r : Nat → Nat → Bool) {S O : Nat} (hS : S < 2 ^ 32) : (Sp.img r S &&& O ≠ 0) ↔ (S &&& Sp.img (Sp.rev r) O ≠ 0) := by
  rw [and_pos (Sp.img_lt _ _), and_pos hS]
  constructor
  · rintro ⟨s, hs, h1, h2⟩
    obtain ⟨_, s0, h0, h3, h4⟩ := (Sp.img_bit _ _ _).1 h1
    exact ⟨s0, h0, h3, (Sp.img_bit _ _ _).2 ⟨h0, s, hs, h2, h4⟩⟩
  · rintro ⟨s0, h0, h1, h2⟩
    obtain ⟨_, s, hs, h3, h4⟩ := (Sp.img_bit _ _ _).1 h2
    exact ⟨s, hs, (Sp.img_bit _ _ _).2 ⟨hs, s0, h0, h1, h4⟩, h3⟩
theorem meet_dec (r : Nat → Nat → Bool) {S O : Nat} (hS : S < 2 ^ 32) : decide ((0 : Int) < ((Sp.img r S &&& O : Nat) : Int)) = decide ((0 : Int) < ((S &&& Sp.img (Sp.rev r) O : Nat) : Int)) := by
  have := img_meet r (S := S) (O := O) hS
  rw [decide_eq_decide]
  omega

theorem statesNext_cases (t : Sp.Task) (S : Int) : Sp.statesNext t S = -1 ∨ (Sp.taskOk t = true ∧ ∃ s : Nat, S = s ∧ s < 4294967296 ∧ Sp.statesNext t S = (Sp.img (Sp.rel t) s : Nat)) := by
  unfold Sp.statesNext
  by_cases h : Sp.taskOk t = true ∧ Sp.setOk S = true
  · right
    have h2 := h.2
    unfold Sp.setOk at h2
    simp only [decide_eq_true_eq] at h2
    obtain ⟨s, rfl⟩ := Int.eq_ofNat_of_zero_le h2.1
    exact ⟨h.1, s, rfl, by omega, by rw [if_pos h, Int.toNat_natCast]⟩
  · left; rw [if_neg h]
theorem statesBack_cases (t : Sp.Task) (S : Int) : Sp.statesBack t S = -1 ∨ (Sp.taskOk t = true ∧ ∃ s : Nat, S = s ∧ s < 4294967296 ∧ Sp.statesBack t S = (Sp.img (Sp.relB t) s : Nat)) := by
  unfold Sp.statesBack
  by_cases h : Sp.taskOk t = true ∧ Sp.setOk S = true
  · right
    have h2 := h.2
    unfold Sp.setOk at h2
    simp only [decide_eq_true_eq] at h2
    obtain ⟨s, rfl⟩ := Int.eq_ofNat_of_zero_le h2.1
    exact ⟨h.1, s, rfl, by omega, by rw [if_pos h, Int.toNat_natCast]⟩
  · left; rw [if_neg h]
theorem statesNext_ok {t : Sp.Task} (h : Sp.taskOk t = true) {s : Nat} (hs : s < 4294967296) : Sp.statesNext t (s : Nat) = (Sp.img (Sp.rel t) s : Nat) := by
  unfold Sp.statesNext
  rw [if_pos ⟨h, by unfold Sp.setOk; simp; omega⟩, Int.toNat_natCast]





































































































































end Go.Proofs.Ytjmpfemlihjibaa
