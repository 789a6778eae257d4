/- Joined texts. No condition. -/
import Derived.Test.YtphdojebdclonaaGreatDoorQ23
import Derived.Test.YtphdojebdclonaaGreatDoorQ3
import Derived.Test.YtphdojebdclonaaGreatDoorQ22
import Derived.Test.YtphdojebdclonaaGreatDoorQ38
import Derived.Test.YtphdojebdclonaaGreatDoorQ1
/- Walks: NumbersOk of both. Walks: the reference's NumbersOk. No condition. -/
namespace Go.Proofs.YtphdojebdclonaaGreatDoor
set_option linter.unusedSimpArgs false
set_option linter.unusedVariables false
open Go.RowKit

def Sp.numAt (l : List Int) (s : Nat) : Int := l.getD s default
/-- the number of a state fits -/
def Sp.numOk (t : Sp.Task) (l : List Int) (s : Nat) : Bool := decide (0 ≤ Sp.numAt l s ∧ Sp.numAt l s ≤ 40) && (!Sp.run t.goal s || decide (Sp.numAt l s = 0))
/-- behind a deed the number is less by more than 1 -/
def Sp.stepBrk (F : Nat → Int) (l : List Int) (p : Nat) : Bool := decide (0 ≤ F p) && decide (Sp.numAt l (F p).toNat < Sp.numAt l (p % 32) - 1)
/-- whether numbers prove how many deeds are needed -/
def Sp.numbersOk (t : Sp.Task) (l : List Int) : Bool := Sp.taskOk t && decide (l.length = 32) && Sp.upTo 32 (Sp.numOk t l) && Sp.upTo (t.deeds.length * 32) (fun p => !Sp.stepBrk (Sp.flat t.deeds) l p)
theorem numbersOk_no1 {t : Sp.Task} {l : List Int} (h : Sp.taskOk t = false) : Sp.numbersOk t l = false := by unfold Sp.numbersOk; rw [h]; rfl
theorem numbersOk_no2 {t : Sp.Task} {l : List Int} (h : l.length ≠ 32) : Sp.numbersOk t l = false := by unfold Sp.numbersOk; rw [decide_eq_false h, Bool.and_false]; rfl
theorem numbersOk_no3 {t : Sp.Task} {l : List Int} {s : Nat} (hs : s < 32) (h : Sp.numOk t l s = false) : Sp.numbersOk t l = false := by
  have : Sp.upTo 32 (Sp.numOk t l) = false := by
    cases hu : Sp.upTo 32 (Sp.numOk t l)
    · rfl
    · rw [(upTo_iff _ _).1 hu s hs] at h; cases h
  unfold Sp.numbersOk
  rw [this, Bool.and_false]; rfl
theorem numbersOk_no4 {t : Sp.Task} {l : List Int} {p : Nat} (hp : p < t.deeds.length * 32) (h : Sp.stepBrk (Sp.flat t.deeds) l p = true) : Sp.numbersOk t l = false := by
  have : Sp.upTo (t.deeds.length * 32) (fun p => !Sp.stepBrk (Sp.flat t.deeds) l p) = false := by
    cases hu : Sp.upTo (t.deeds.length * 32) (fun p => !Sp.stepBrk (Sp.flat t.deeds) l p)
    · rfl
    · have := (upTo_iff _ _).1 hu p hp; rw [h] at this; cases this
  unfold Sp.numbersOk
  rw [this, Bool.and_false]
theorem numbersOk_yes {t : Sp.Task} {l : List Int} (h0 : Sp.taskOk t = true) (h1 : l.length = 32) (h2 : ∀ s, s < 32 → Sp.numOk t l s = true) (h3 : ∀ p, p < t.deeds.length * 32 → Sp.stepBrk (Sp.flat t.deeds) l p = false) : Sp.numbersOk t l = true := by
  unfold Sp.numbersOk
  rw [h0, decide_eq_true h1, (upTo_iff _ _).2 h2, (upTo_iff _ _).2 fun p hp => by rw [h3 p hp]; rfl]; rfl
theorem numbersOk_parts {t : Sp.Task} {l : List Int} (h : Sp.numbersOk t l = true) : Sp.taskOk t = true ∧ l.length = 32 ∧ (∀ s, s < 32 → Sp.numOk t l s = true) ∧ ∀ p, p < t.deeds.length * 32 → Sp.stepBrk (Sp.flat t.deeds) l p = false := by
  unfold Sp.numbersOk at h
  simp only [Bool.and_eq_true, decide_eq_true_eq] at h
  refine ⟨h.1.1.1, h.1.1.2, (upTo_iff _ _).1 h.1.2, fun p hp => ?_⟩
  have := (upTo_iff _ _).1 h.2 p hp
  simpa using this
theorem numOk_range {t : Sp.Task} {l : List Int} {s : Nat} (h : Sp.numOk t l s = true) : 0 ≤ Sp.numAt l s ∧ Sp.numAt l s ≤ 40 := by
  unfold Sp.numOk at h
  rw [Bool.and_eq_true, decide_eq_true_eq] at h
  exact h.1
theorem brk_at {F : Nat → Int} {l : List Int} {k s : Nat} (hs : s < 32) : Sp.stepBrk F l (k * 32 + s) = (decide (0 ≤ F (k * 32 + s)) && decide (Sp.numAt l (F (k * 32 + s)).toNat < Sp.numAt l s - 1)) := by
  unfold Sp.stepBrk
  rw [show (k * 32 + s) % 32 = s by omega]
/-- the cells of 32 numbers -/
def NumRow (w : World) (b off : Nat) (l : List Int) : Prop := b < w.heap.size ∧ ∀ s, s < 32 → w.cell? ⟨b, off + s, none⟩ = some (.int .i64 (Sp.numAt l s))
theorem NumRow.keep {w w' : World} {b off : Nat} {l : List Int} (h : NumRow w b off l) (hk : Kept w w') : NumRow w' b off l :=
  ⟨Nat.lt_of_lt_of_le h.1 hk.size, fun s hs => by rw [hk.cell h.1]; exact h.2 s hs⟩
theorem numRow_of {w : World} {A : Option Addr} {l : List Int} (h : Ints w A 32 l) : ∃ b off, A = some ⟨b, off, none⟩ ∧ NumRow w b off l := by
  obtain ⟨b, off, e, hb, hc⟩ := h.2.2.2 (by omega)
  exact ⟨b, off, e, hb, hc⟩













































































































































theorem truth_run (l : List Int) {s : Nat} (hs : s < 32) : (Sp.truth l).testBit s = Sp.run l s := by
  unfold Sp.truth
  rw [Sp.testBit_setOf]
  simp [hs]
theorem numOk_neg {t : Sp.Task} {l : List Int} {s : Nat} (h : ¬ (0 ≤ Sp.numAt l s ∧ Sp.numAt l s ≤ 40)) : Sp.numOk t l s = false := by unfold Sp.numOk; rw [decide_eq_false h]; rfl
theorem numOk_goal {t : Sp.Task} {l : List Int} {s : Nat} (h : Sp.run t.goal s = true) (h2 : Sp.numAt l s ≠ 0) : Sp.numOk t l s = false := by unfold Sp.numOk; rw [h, decide_eq_false h2, Bool.and_comm]; rfl
theorem numOk_in {t : Sp.Task} {l : List Int} {s : Nat} (h : 0 ≤ Sp.numAt l s ∧ Sp.numAt l s ≤ 40) (h2 : Sp.run t.goal s = true → Sp.numAt l s = 0) : Sp.numOk t l s = true := by
  unfold Sp.numOk
  rw [decide_eq_true h, Bool.true_and]
  cases hr : Sp.run t.goal s
  · rfl
  · rw [decide_eq_true (h2 hr)]; rfl












































































































































end Go.Proofs.YtphdojebdclonaaGreatDoor

namespace Go.Proofs.YtphdojebdclonaaGreatDoor
set_option linter.unusedSimpArgs false
set_option linter.unusedVariables false
open Go.RowKit
































































































































































































































end Go.Proofs.YtphdojebdclonaaGreatDoor
/- Walks: SumStates. No condition. -/
namespace Go.Proofs.YtphdojebdclonaaGreatDoor
set_option linter.unusedSimpArgs false
set_option linter.unusedVariables false
open Go.RowKit
























































































































end Go.Proofs.YtphdojebdclonaaGreatDoor
/- Plain: what numbers, sets and sums prove. No program in sight. No condition. -/
namespace Go.Proofs.YtphdojebdclonaaGreatDoor
set_option linter.unusedSimpArgs false
set_option linter.unusedVariables false
open Go.RowKit

theorem numAt_for {t : Sp.Task} (h : Sp.taskOk t = true) {s : Nat} (hs : s < 32) : Sp.numAt (Sp.numbersFor t) s = Sp.big (Sp.toGo t s) := by
  unfold Sp.numAt Sp.numbersFor Sp.stepsLeast
  rw [if_pos h]
  unfold Sp.distList
  simp [List.getD, hs]
  rfl
theorem big_bd {t : Sp.Task} {s : Nat} (hs : s < 32) : 0 ≤ Sp.big (Sp.toGo t s) ∧ Sp.big (Sp.toGo t s) ≤ 40 := by
  have := toGo_bd t hs
  unfold Sp.big
  split <;> omega
theorem numbersFor_length {t : Sp.Task} (h : Sp.taskOk t = true) : (Sp.numbersFor t).length = 32 := by
  unfold Sp.numbersFor Sp.stepsLeast
  rw [if_pos h, List.length_map, distList_len]
theorem numbersFor_no {t : Sp.Task} (h : Sp.taskOk t = false) : Sp.numbersFor t = [] := by
  unfold Sp.numbersFor Sp.stepsLeast
  rw [h]; rfl
/-- the best numbers prove it -/
theorem numbersFor_ok {t : Sp.Task} (h : Sp.taskOk t = true) : Sp.numbersOk t (Sp.numbersFor t) = true := by
  refine numbersOk_yes h (numbersFor_length h) (fun s hs => numOk_in ?_ fun hr => ?_) fun p hp => ?_
  · rw [numAt_for h hs]; exact big_bd hs
  · rw [numAt_for h hs]
    rw [zero_toGo hs, decide_eq_true_eq] at hr
    rw [hr]; rfl
  · have hs : p % 32 < 32 := by omega
    have hk : p / 32 < t.deeds.length := by omega
    unfold Sp.stepBrk
    by_cases h0 : 0 ≤ Sp.flat t.deeds p
    · obtain ⟨u, hu⟩ := Int.eq_ofNat_of_zero_le h0
      have hu2 : Sp.stepI (t.deeds.getD (p / 32) default) (p % 32) = (u : Int) := hu
      have hbd := stepI_bd hs (Sp.taskOk_deed h hk)
      have hu3 : u < 32 := by omega
      rw [hu, Int.toNat_natCast, numAt_for h hu3, numAt_for h hs, decide_eq_true (show (0 : Int) ≤ (u : Int) by omega), Bool.true_and, decide_eq_false_iff_not]
      have hb := @big_bd t (p % 32) hs
      by_cases hg : 0 ≤ Sp.toGo t u
      · have := edge_toGo h hs hk hu2 hg
        unfold Sp.big
        rw [if_neg (by omega), if_neg (by omega)]
        omega
      · unfold Sp.big at *
        rw [if_pos (by omega : Sp.toGo t u < 0)]
        omega
    · rw [decide_eq_false h0]; rfl
/-- numbers that prove it are never more than what is needed -/
theorem numbersOk_least {t : Sp.Task} {l : List Int} (h : Sp.numbersOk t l = true) (n : Nat) : ∀ s, s < 32 → Sp.toGo t s = (n : Int) → Sp.numAt l s ≤ n := by
  obtain ⟨hok, _, h2, h3⟩ := numbersOk_parts h
  induction n with
  | zero =>
    intro s hs hg
    have h4 := h2 s hs
    unfold Sp.numOk at h4
    rw [zero_toGo hs, decide_eq_true (show Sp.toGo t s = 0 from hg)] at h4
    simp at h4
    omega
  | succ n ih =>
    intro s hs hg
    obtain ⟨k, hk, hh⟩ := hit_some hok hs (by omega)
    unfold Sp.hit at hh
    rw [Bool.and_eq_true, decide_eq_true_eq, beq_iff_eq] at hh
    obtain ⟨u, hu⟩ := Int.eq_ofNat_of_zero_le hh.1
    rw [hu, Int.toNat_natCast] at hh
    have hbd := stepI_bd hs (Sp.taskOk_deed hok hk)
    have h4 := ih u (by omega) (by omega)
    have h5 := h3 (k * 32 + s) (by omega)
    rw [brk_at hs, flat_at _ _ _ hs, hu, Int.toNat_natCast, decide_eq_true (show (0 : Int) ≤ (u : Int) by omega), Bool.true_and, decide_eq_false_iff_not] at h5
    omega
theorem numbersOk_le {t : Sp.Task} {l : List Int} (h : Sp.numbersOk t l = true) {s : Nat} (hs : s < 32) (h0 : 0 ≤ Sp.toGo t s) : Sp.numAt l s ≤ Sp.toGo t s := by
  obtain ⟨n, hn⟩ := Int.eq_ofNat_of_zero_le h0
  rw [hn]
  exact numbersOk_least h n s hs hn

theorem planThere_iff {t : Sp.Task} (hok : Sp.taskOk t = true) : Sp.planThere t = true ↔ ∃ s, s < 32 ∧ (Sp.reachedN t).testBit s = true ∧ (Sp.truth t.goal).testBit s = true := by
  have h := meet_all (Sp.rel t) (start_lt hok) (truth_bd t.goal)
  unfold Sp.planThere
  rw [hok, Bool.true_and, leads_toGo (start_lt hok)]
  exact h.symm
/-- a closed set that has the start has all that is reached -/
theorem closed_reached {t : Sp.Task} {S : Nat} (h0 : S.testBit t.start.toNat = true) (h : Sp.img (Sp.rel t) S &&& S = Sp.img (Sp.rel t) S) : ∀ s, s < 32 → (Sp.reachedN t).testBit s = true → S.testBit s = true := by
  refine rch_ind _ (fun s hs hb => ?_) (fun a b ha hb ih hr => ?_) 32
  · rw [Nat.testBit_two_pow, decide_eq_true_eq] at hb
    subst hb; exact h0
  · have : (Sp.img (Sp.rel t) S).testBit b = true := (Sp.img_bit _ _ _).2 ⟨hb, a, ha, ih, hr⟩
    rw [← h, Nat.testBit_and, Bool.and_eq_true] at this
    exact this.2
theorem and_zero_bit {S T : Nat} (h : S &&& T = 0) {s : Nat} (h1 : S.testBit s = true) : T.testBit s = false := by
  have := congrArg (fun x => x.testBit s) h
  simp only [Nat.testBit_and, h1, Bool.true_and, Nat.zero_testBit] at this
  exact this
/-- what is proved impossible is -/
theorem closedOk_none {t : Sp.Task} {S : Int} (h : Sp.closedOk t S = true) : Sp.planThere t = false ∧ Sp.reachedN t &&& S.toNat = Sp.reachedN t := by
  unfold Sp.closedOk at h
  simp only [Bool.and_eq_true, decide_eq_true_eq] at h
  obtain ⟨⟨⟨⟨hok, hs⟩, h0⟩, h1⟩, h2⟩ := h
  have hin := closed_reached h0 h1
  refine ⟨?_, Sp.set_ext (Nat.lt_of_le_of_lt Nat.and_le_left (reachedN_lt hok)) (reachedN_lt hok) fun s hs => ?_⟩
  · cases hp : Sp.planThere t
    · rfl
    · obtain ⟨s, hs, h3, h4⟩ := (planThere_iff hok).1 hp
      rw [and_zero_bit h2 (hin s hs h3)] at h4
      cases h4
  · rw [Nat.testBit_and, Bool.and_eq_true]
    exact ⟨fun h => h.1, fun h => ⟨h, hin s hs h⟩⟩
/-- all that is reached proves it -/
theorem reached_closed {t : Sp.Task} (hok : Sp.taskOk t = true) : Sp.closedOk t ((Sp.reachedN t : Nat) : Int) = !Sp.planThere t := by
  have hl := reachedN_lt hok
  have hs : Sp.setOk ((Sp.reachedN t : Nat) : Int) = true := by unfold Sp.setOk; simp; omega
  unfold Sp.closedOk
  have hi : Sp.img (Sp.rel t) (Sp.reachedN t) &&& Sp.reachedN t = Sp.img (Sp.rel t) (Sp.reachedN t) := all_img (start_set hok)
  rw [hok, hs, Int.toNat_natCast, start_in, decide_eq_true hi]
  simp only [Bool.true_and]
  rw [Bool.eq_iff_iff, decide_eq_true_eq, Bool.not_eq_true']
  constructor
  · intro h
    cases hp : Sp.planThere t
    · rfl
    · obtain ⟨s, hs, h3, h4⟩ := (planThere_iff hok).1 hp
      rw [and_zero_bit h h3] at h4
      cases h4
  · intro h
    refine Sp.set_ext (Nat.lt_of_le_of_lt Nat.and_le_left hl) (by decide) fun s hs => ?_
    rw [Nat.testBit_and, Bool.and_eq_true, Nat.zero_testBit]
    refine ⟨fun h3 => ?_, fun h3 => by cases h3⟩
    rw [(planThere_iff hok).2 ⟨s, hs, h3.1, h3.2⟩] at h
    cases h

end Go.Proofs.YtphdojebdclonaaGreatDoor
/- Plain: a set of states by parity has 16 states, or all 32. No program in sight. No condition. -/
namespace Go.Proofs.YtphdojebdclonaaGreatDoor
set_option linter.unusedSimpArgs false
set_option linter.unusedVariables false

theorem cu_congr (n : Nat) (p q : Nat → Bool) (h : ∀ s, s < n → p s = q s) : Sp.cu n p = Sp.cu n q := by
  induction n with
  | zero => rfl
  | succ n ih =>
    show Sp.cu n p + (if p n = true then 1 else 0) = Sp.cu n q + (if q n = true then 1 else 0)
    rw [ih (fun s hs => h s (by omega)), h n (by omega)]
theorem cu_off (n m : Nat) (p : Nat → Bool) (h : ∀ s, n ≤ s → p s = false) : Sp.cu (n + m) p = Sp.cu n p := by
  induction m with
  | zero => rfl
  | succ m ih =>
    show Sp.cu (n + m) p + (if p (n + m) = true then 1 else 0) = _
    rw [ih, h (n + m) (by omega)]; rfl
theorem par_count : ∀ f : Fin 32, ∀ p : Fin 2, Sp.cu 32 (fun s => (cnt (s &&& f.val) + p.val) % 2 == 0) = if f.val = 0 then (if p.val = 0 then 32 else 0) else 16 := by decide +kernel
set_option maxRecDepth 100000 in
theorem sumSet_count (a f : Nat) (hf : f < 32) : Sp.cu 40 (fun i => (Sp.sumSet a f).testBit i) = if f = 0 then 32 else 16 := by
  have h1 : Sp.cu 40 (fun i => (Sp.sumSet a f).testBit i) = Sp.cu 32 (fun s => (cnt (s &&& f) + cnt (a &&& f) % 2) % 2 == 0) := by
    refine (cu_off 32 8 _ (fun s hs => by unfold Sp.sumSet; rw [Sp.testBit_setOf, decide_eq_false (by omega)]; rfl)).trans ?_
    refine cu_congr 32 _ _ fun s hs => ?_
    unfold Sp.sumSet Sp.even
    rw [Sp.testBit_setOf, decide_eq_true hs, Bool.true_and, Bool.eq_iff_iff, beq_iff_eq, beq_iff_eq]
    omega
  rw [h1]
  have h2 : Sp.cu 32 (fun s => (cnt (s &&& f) + cnt (a &&& f) % 2) % 2 == 0) = if f = 0 then (if cnt (a &&& f) % 2 = 0 then 32 else 0) else 16 := par_count ⟨f, hf⟩ ⟨cnt (a &&& f) % 2, by omega⟩
  rw [h2]
  by_cases h : f = 0
  · subst h
    have : cnt (a &&& 0) = 0 := by rw [Nat.and_zero]; decide +kernel
    rw [this]; rfl
  · rw [if_neg h, if_neg h]
theorem sumSet_start (a f : Nat) (ha : a < 32) : (Sp.sumSet a f).testBit a = true := by
  unfold Sp.sumSet Sp.even
  rw [Sp.testBit_setOf, decide_eq_true ha, Bool.true_and, beq_iff_eq]
  omega

end Go.Proofs.YtphdojebdclonaaGreatDoor
/- Plain: what stays even is never odd. No program in sight. No condition. -/
namespace Go.Proofs.YtphdojebdclonaaGreatDoor
set_option linter.unusedSimpArgs false
set_option linter.unusedVariables false
open Go.RowKit

theorem sumSet_bit (a f s : Nat) (hs : s < 32) : (Sp.sumSet a f).testBit s = (Sp.par f s == Sp.par f a) := by
  unfold Sp.sumSet
  rw [Sp.testBit_setOf, decide_eq_true hs, Bool.true_and, even_par]
/-- what stays even is never odd -/
theorem sumOk_closed {t : Sp.Task} {q : Int} (h : Sp.sumOk t q = true) : Sp.planThere t = false ∧ Sp.closedOk t (Sp.sumStates t q) = true := by
  have hq : Sp.stOk q = true := by
    unfold Sp.sumOk at h
    simp only [Bool.and_eq_true] at h
    exact h.1.1.1
  have hq2 := hq
  unfold Sp.stOk at hq2
  simp only [decide_eq_true_eq] at hq2
  obtain ⟨f, rfl⟩ := Int.eq_ofNat_of_zero_le hq2.1
  obtain ⟨h1, h2, h3⟩ := sumOk_parts h
  have hto := onlyTurns_taskOk h1
  have hst := start_lt hto
  refine ⟨sumOk_none h, ?_⟩
  have hl : Sp.sumSet t.start.toNat f < 4294967296 := setOf_bd 32 _ (Nat.le_refl _)
  have hset : Sp.setOk ((Sp.sumSet t.start.toNat f : Nat) : Int) = true := by unfold Sp.setOk; simp; omega
  unfold Sp.sumStates
  rw [if_pos ⟨hto, hq⟩, Int.toNat_natCast]
  unfold Sp.closedOk
  have hi : Sp.img (Sp.rel t) (Sp.sumSet t.start.toNat f) &&& Sp.sumSet t.start.toNat f = Sp.img (Sp.rel t) (Sp.sumSet t.start.toNat f) := by
    refine Sp.set_ext (Nat.lt_of_le_of_lt Nat.and_le_left (Sp.img_lt _ _)) (Sp.img_lt _ _) fun u hu => ?_
    rw [Nat.testBit_and, Bool.and_eq_true]
    refine ⟨fun h => h.1, fun h => ⟨h, ?_⟩⟩
    obtain ⟨_, s, hs, h4, h5⟩ := (Sp.img_bit _ _ _).1 h
    obtain ⟨k, hk, h6⟩ := (rel_iff t s u hs).1 h5
    have hD := only_deed h1 hk
    have e := turn_step hD.2 hs
    have hf := h2 _ (show t.deeds.getD k default ∈ t.deeds by simp only [List.getD_eq_getElem?_getD, List.getElem?_eq_getElem hk, Option.getD_some]; exact List.getElem_mem _)
    have eu : u = s ^^^ (t.deeds.getD k default).flip.toNat := by omega
    rw [sumSet_bit _ _ _ hs] at h4
    rw [sumSet_bit _ _ _ hu, eu, par_xor, hf, beq_iff_eq]
    rw [beq_iff_eq] at h4
    have := par_two f s
    omega
  have hz : Sp.sumSet t.start.toNat f &&& Sp.truth t.goal = 0 := by
    refine Sp.set_ext (Nat.lt_of_le_of_lt Nat.and_le_left hl) (by decide) fun s hs => ?_
    rw [Nat.testBit_and, Bool.and_eq_true, Nat.zero_testBit]
    refine ⟨fun h4 => ?_, fun h4 => by cases h4⟩
    rw [sumSet_bit _ _ _ hs, beq_iff_eq, truth_run _ hs] at h4
    exact absurd h4.1 (h3 s hs h4.2)
  rw [hto, hset, Int.toNat_natCast, sumSet_start _ _ hst, decide_eq_true hi, decide_eq_true hz]; rfl

end Go.Proofs.YtphdojebdclonaaGreatDoor
