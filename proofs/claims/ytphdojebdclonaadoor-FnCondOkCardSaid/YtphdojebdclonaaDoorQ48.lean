/- Joined texts. No condition. -/
import Derived.Test.YtphdojebdclonaaDoorQ43
import Derived.Test.YtphdojebdclonaaDoorQ25
import Derived.Test.YtphdojebdclonaaDoorQ46
import Derived.Test.YtphdojebdclonaaDoorQ47
/- Plain: what numbers, sets and sums prove. No program in sight. No condition. -/
namespace Go.Proofs.YtphdojebdclonaaDoor
set_option linter.unusedSimpArgs false
set_option linter.unusedVariables false
open Go.RowKit

theorem numAt_for {t : Sp.Task} (h : Sp.taskOk t = true) {s : Nat} (hs : s < 32) : Sp.numAt (Sp.numbersFor t) s = Sp.big (Sp.toGo t s) := by
  unfold Sp.numAt Sp.numbersFor Sp.stepsLeast
  rw [if_pos h]
  unfold Sp.distList
  simp [List.getD, hs]
  rfl
theorem big_bd {t : Sp.Task} {s : Nat} (hs : s < 32) : 0 ≤ Sp.big (Sp.toGo t s) ∧ Sp.big (Sp.toGo t s) ≤ 40 := by
  have := toGo_bd t hs
  unfold Sp.big
  split <;> omega
theorem numbersFor_length {t : Sp.Task} (h : Sp.taskOk t = true) : (Sp.numbersFor t).length = 32 := by
  unfold Sp.numbersFor Sp.stepsLeast
  rw [if_pos h, List.length_map, distList_len]
theorem numbersFor_no {t : Sp.Task} (h : Sp.taskOk t = false) : Sp.numbersFor t = [] := by
  unfold Sp.numbersFor Sp.stepsLeast
  rw [h]; rfl
/-- the best numbers prove it -/
theorem numbersFor_ok {t : Sp.Task} (h : Sp.taskOk t = true) : Sp.numbersOk t (Sp.numbersFor t) = true := by
  refine numbersOk_yes h (numbersFor_length h) (fun s hs => numOk_in ?_ fun hr => ?_) fun p hp => ?_
  · rw [numAt_for h hs]; exact big_bd hs
  · rw [numAt_for h hs]
    rw [zero_toGo hs, decide_eq_true_eq] at hr
    rw [hr]; rfl
  · have hs : p % 32 < 32 := by omega
    have hk : p / 32 < t.deeds.length := by omega
    unfold Sp.stepBrk
    by_cases h0 : 0 ≤ Sp.flat t.deeds p
    · obtain ⟨u, hu⟩ := Int.eq_ofNat_of_zero_le h0
      have hu2 : Sp.stepI (t.deeds.getD (p / 32) default) (p % 32) = (u : Int) := hu
      have hbd := stepI_bd hs (Sp.taskOk_deed h hk)
      have hu3 : u < 32 := by omega
      rw [hu, Int.toNat_natCast, numAt_for h hu3, numAt_for h hs, decide_eq_true (show (0 : Int) ≤ (u : Int) by omega), Bool.true_and, decide_eq_false_iff_not]
      have hb := @big_bd t (p % 32) hs
      by_cases hg : 0 ≤ Sp.toGo t u
      · have := edge_toGo h hs hk hu2 hg
        unfold Sp.big
        rw [if_neg (by omega), if_neg (by omega)]
        omega
      · unfold Sp.big at *
        rw [if_pos (by omega : Sp.toGo t u < 0)]
        omega
    · rw [decide_eq_false h0]; rfl
/-- numbers that prove it are never more than what is needed -/
theorem numbersOk_least {t : Sp.Task} {l : List Int} (h : Sp.numbersOk t l = true) (n : Nat) : ∀ s, s < 32 → Sp.toGo t s = (n : Int) → Sp.numAt l s ≤ n := by
  obtain ⟨hok, _, h2, h3⟩ := numbersOk_parts h
  induction n with
  | zero =>
    intro s hs hg
    have h4 := h2 s hs
    unfold Sp.numOk at h4
    rw [zero_toGo hs, decide_eq_true (show Sp.toGo t s = 0 from hg)] at h4
    simp at h4
    omega
  | succ n ih =>
    intro s hs hg
    obtain ⟨k, hk, hh⟩ := hit_some hok hs (by omega)
    unfold Sp.hit at hh
    rw [Bool.and_eq_true, decide_eq_true_eq, beq_iff_eq] at hh
    obtain ⟨u, hu⟩ := Int.eq_ofNat_of_zero_le hh.1
    rw [hu, Int.toNat_natCast] at hh
    have hbd := stepI_bd hs (Sp.taskOk_deed hok hk)
    have h4 := ih u (by omega) (by omega)
    have h5 := h3 (k * 32 + s) (by omega)
    rw [brk_at hs, flat_at _ _ _ hs, hu, Int.toNat_natCast, decide_eq_true (show (0 : Int) ≤ (u : Int) by omega), Bool.true_and, decide_eq_false_iff_not] at h5
    omega
theorem numbersOk_le {t : Sp.Task} {l : List Int} (h : Sp.numbersOk t l = true) {s : Nat} (hs : s < 32) (h0 : 0 ≤ Sp.toGo t s) : Sp.numAt l s ≤ Sp.toGo t s := by
  obtain ⟨n, hn⟩ := Int.eq_ofNat_of_zero_le h0
  rw [hn]
  exact numbersOk_least h n s hs hn

theorem planThere_iff {t : Sp.Task} (hok : Sp.taskOk t = true) : Sp.planThere t = true ↔ ∃ s, s < 32 ∧ (Sp.reachedN t).testBit s = true ∧ (Sp.truth t.goal).testBit s = true := by
  have h := meet_all (Sp.rel t) (start_lt hok) (truth_bd t.goal)
  unfold Sp.planThere
  rw [hok, Bool.true_and, leads_toGo (start_lt hok)]
  exact h.symm
/-- a closed set that has the start has all that is reached -/
theorem closed_reached {t : Sp.Task} {S : Nat} (h0 : S.testBit t.start.toNat = true) (h : Sp.img (Sp.rel t) S &&& S = Sp.img (Sp.rel t) S) : ∀ s, s < 32 → (Sp.reachedN t).testBit s = true → S.testBit s = true := by
  refine rch_ind _ (fun s hs hb => ?_) (fun a b ha hb ih hr => ?_) 32
  · rw [Nat.testBit_two_pow, decide_eq_true_eq] at hb
    subst hb; exact h0
  · have : (Sp.img (Sp.rel t) S).testBit b = true := (Sp.img_bit _ _ _).2 ⟨hb, a, ha, ih, hr⟩
    rw [← h, Nat.testBit_and, Bool.and_eq_true] at this
    exact this.2
theorem and_zero_bit {S T : Nat} (h : S &&& T = 0) {s : Nat} (h1 : S.testBit s = true) : T.testBit s = false := by
  have := congrArg (fun x => x.testBit s) h
  simp only [Nat.testBit_and, h1, Bool.true_and, Nat.zero_testBit] at this
  exact this
/-- what is proved impossible is -/
theorem closedOk_none {t : Sp.Task} {S : Int} (h : Sp.closedOk t S = true) : Sp.planThere t = false ∧ Sp.reachedN t &&& S.toNat = Sp.reachedN t := by
  unfold Sp.closedOk at h
  simp only [Bool.and_eq_true, decide_eq_true_eq] at h
  obtain ⟨⟨⟨⟨hok, hs⟩, h0⟩, h1⟩, h2⟩ := h
  have hin := closed_reached h0 h1
  refine ⟨?_, Sp.set_ext (Nat.lt_of_le_of_lt Nat.and_le_left (reachedN_lt hok)) (reachedN_lt hok) fun s hs => ?_⟩
  · cases hp : Sp.planThere t
    · rfl
    · obtain ⟨s, hs, h3, h4⟩ := (planThere_iff hok).1 hp
      rw [and_zero_bit h2 (hin s hs h3)] at h4
      cases h4
  · rw [Nat.testBit_and, Bool.and_eq_true]
    exact ⟨fun h => h.1, fun h => ⟨h, hin s hs h⟩⟩
/-- all that is reached proves it -/
theorem reached_closed {t : Sp.Task} (hok : Sp.taskOk t = true) : Sp.closedOk t ((Sp.reachedN t : Nat) : Int) = !Sp.planThere t := by
  have hl := reachedN_lt hok
  have hs : Sp.setOk ((Sp.reachedN t : Nat) : Int) = true := by unfold Sp.setOk; simp; omega
  unfold Sp.closedOk
  have hi : Sp.img (Sp.rel t) (Sp.reachedN t) &&& Sp.reachedN t = Sp.img (Sp.rel t) (Sp.reachedN t) := all_img (start_set hok)
  rw [hok, hs, Int.toNat_natCast, start_in, decide_eq_true hi]
  simp only [Bool.true_and]
  rw [Bool.eq_iff_iff, decide_eq_true_eq, Bool.not_eq_true']
  constructor
  · intro h
    cases hp : Sp.planThere t
    · rfl
    · obtain ⟨s, hs, h3, h4⟩ := (planThere_iff hok).1 hp
      rw [and_zero_bit h h3] at h4
      cases h4
  · intro h
    refine Sp.set_ext (Nat.lt_of_le_of_lt Nat.and_le_left hl) (by decide) fun s hs => ?_
    rw [Nat.testBit_and, Bool.and_eq_true, Nat.zero_testBit]
    refine ⟨fun h3 => ?_, fun h3 => by cases h3⟩
    rw [(planThere_iff hok).2 ⟨s, hs, h3.1, h3.2⟩] at h
    cases h

end Go.Proofs.YtphdojebdclonaaDoor
