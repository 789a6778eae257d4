/- Plain: shadows need no more. No program in sight. No condition. -/
import Derived.Test.YtjmpfemlihjibaaG10
import Derived.Test.YtjmpfemlihjibaaG14
import Derived.Test.YtjmpfemlihjibaaG26
namespace Go.Proofs.Ytjmpfemlihjibaa
open Go.RowKit

/-- with more edges and more to begin with nothing is farther -/
theorem dist_sub {rel rel' : Nat → Nat → Bool} {S S' : Nat} (hS : S < 2 ^ 32) (hS' : S' < 2 ^ 32) (h0 : ∀ s, s < 32 → S.testBit s = true → S'.testBit s = true) (h1 : ∀ a b, a < 32 → b < 32 → rel a b = true → rel' a b = true) (n : Nat) :
    ∀ s, s < 32 → Sp.dist rel S s = (n : Int) → 0 ≤ Sp.dist rel' S' s ∧ Sp.dist rel' S' s ≤ n := by
  induction n with
  | zero =>
    intro s hs h
    have := (dist_zero_iff hS' hs (rel := rel')).2 (h0 s hs ((dist_zero_iff hS hs).1 h))
    omega
  | succ n ih =>
    intro s hs h
    obtain ⟨a, ha, h2, h3⟩ := dist_before (rel := rel) (n := n) hS hs (by omega)
    have h4 := ih a ha h2
    have h5 := dist_edge (rel := rel') hS' ha hs h4.1 (h1 a s ha hs h3)
    omega
theorem dist_less {rel rel' : Nat → Nat → Bool} {S S' : Nat} (hS : S < 2 ^ 32) (hS' : S' < 2 ^ 32) (h0 : ∀ s, s < 32 → S.testBit s = true → S'.testBit s = true) (h1 : ∀ a b, a < 32 → b < 32 → rel a b = true → rel' a b = true)
    {s : Nat} (hs : s < 32) (h : 0 ≤ Sp.dist rel S s) : 0 ≤ Sp.dist rel' S' s ∧ Sp.dist rel' S' s ≤ Sp.dist rel S s := by
  obtain ⟨n, hn⟩ := Int.eq_ofNat_of_zero_le h
  rw [hn]
  exact dist_sub hS hS' h0 h1 n s hs hn
theorem agree_self (f a : Nat) : Sp.agree f a a = true := by simp [Sp.agree]
theorem agree_sub {f g : Nat} (h : g &&& f = f) {a b : Nat} (hb : Sp.agree g a b = true) : Sp.agree f a b = true := by
  unfold Sp.agree at *
  rw [beq_iff_eq] at *
  rw [← h, ← Nat.and_assoc, ← Nat.and_assoc, hb]
theorem or_sub (f b : Nat) : (f ||| b) &&& f = f := by
  refine Nat.eq_of_testBit_eq fun i => ?_
  rw [Nat.testBit_and, Nat.testBit_or]
  cases f.testBit i <;> cases b.testBit i <;> rfl
theorem relS_sub {t : Sp.Task} {f g : Nat} (h : ∀ a b, Sp.agree g a b = true → Sp.agree f a b = true) (a b : Nat) (hr : Sp.relS t g a b = true) : Sp.relS t f a b = true := by
  unfold Sp.relS Sp.comp at *
  obtain ⟨c, hc, h1⟩ := (Sp.ex_iff _ _).1 hr
  rw [Bool.and_eq_true] at h1
  exact (Sp.ex_iff _ _).2 ⟨c, hc, by rw [Bool.and_eq_true]; exact ⟨h1.1, h _ _ h1.2⟩⟩
theorem endS_sub {t : Sp.Task} {f g : Nat} (h : ∀ a b, Sp.agree g a b = true → Sp.agree f a b = true) (s : Nat) (hs : (Sp.endS t g).testBit s = true) : (Sp.endS t f).testBit s = true := by
  unfold Sp.endS at *
  obtain ⟨h0, o, ho, h1, h2⟩ := (Sp.img_bit _ _ _).1 hs
  exact (Sp.img_bit _ _ _).2 ⟨h0, o, ho, h1, h _ _ h2⟩
def Sp.shade (t : Sp.Task) (f s : Nat) : Int := Sp.dist (Sp.relS t f) (Sp.endS t f) s
theorem shade_bd (t : Sp.Task) (f : Nat) {s : Nat} (hs : s < 32) : -1 ≤ Sp.shade t f s ∧ Sp.shade t f s ≤ 31 := dist_bd (endS_lt t f) s hs
/-- with more facts it is never less -/
theorem shade_less (t : Sp.Task) (f b : Nat) {s : Nat} (hs : s < 32) (h : 0 ≤ Sp.shade t (f ||| b) s) : 0 ≤ Sp.shade t f s ∧ Sp.shade t f s ≤ Sp.shade t (f ||| b) s :=
  dist_less (endS_lt _ _) (endS_lt _ _) (fun s _ hs => endS_sub (fun _ _ => agree_sub (or_sub f b)) s hs) (fun a b _ _ h => relS_sub (fun _ _ => agree_sub (or_sub f _)) a b h) hs h
/-- it is at most the number of what it is of -/
theorem shade_toGo (t : Sp.Task) (f : Nat) {s : Nat} (hs : s < 32) (h : 0 ≤ Sp.toGo t s) : 0 ≤ Sp.shade t f s ∧ Sp.shade t f s ≤ Sp.toGo t s :=
  dist_less (truth_bd _) (endS_lt _ _) (fun s hs h => by unfold Sp.endS; exact (Sp.img_bit _ _ _).2 ⟨hs, s, hs, h, agree_self _ _⟩)
    (fun a b _ hb h => by unfold Sp.relS Sp.comp; exact (Sp.ex_iff _ _).2 ⟨b, hb, by rw [Bool.and_eq_true]; exact ⟨h, agree_self _ _⟩⟩) hs h
theorem and31 {a : Nat} (ha : a < 32) : a &&& 31 = a := by
  have := Nat.and_two_pow_sub_one_eq_mod a 5
  have e : (2 : Nat) ^ 5 - 1 = 31 := by decide
  rw [e] at this
  rw [this]; omega
theorem agree_all {a b : Nat} (ha : a < 32) (hb : b < 32) (h : Sp.agree 31 a b = true) : a = b := by
  unfold Sp.agree at h
  rw [beq_iff_eq, and31 ha, and31 hb] at h
  exact h.symm
/-- with all facts it is the number -/
theorem shade_all (t : Sp.Task) {s : Nat} (hs : s < 32) : Sp.shade t 31 s = Sp.toGo t s := by
  have h1 := shade_toGo t 31 hs
  have h2 : 0 ≤ Sp.shade t 31 s → 0 ≤ Sp.toGo t s ∧ Sp.toGo t s ≤ Sp.shade t 31 s := fun h =>
    dist_less (endS_lt _ _) (truth_bd _) (fun s hs h => by
      unfold Sp.endS at h
      obtain ⟨_, o, ho, h3, h4⟩ := (Sp.img_bit _ _ _).1 h
      rw [← agree_all ho hs h4]; exact h3)
      (fun a b _ hb h => by
        unfold Sp.relS Sp.comp at h
        obtain ⟨c, hc, h3⟩ := (Sp.ex_iff _ _).1 h
        rw [Bool.and_eq_true] at h3
        rw [← agree_all hc hb h3.2]; exact h3.1) hs h
  have := shade_bd t 31 hs
  have := toGo_bd t hs
  omega
theorem shadowSteps_all {t : Sp.Task} (h : Sp.taskOk t = true) : Sp.shadowSteps t 31 = Sp.stepsLeast t := by
  unfold Sp.stepsLeast
  rw [if_pos h]
  unfold Sp.shadowSteps
  rw [if_pos ⟨h, rfl⟩]
  unfold Sp.distList
  refine List.map_congr_left fun s hs => ?_
  exact shade_all t (List.mem_range.1 hs)
theorem shade_none {t : Sp.Task} {s : Nat} (hs : s < 32) : Sp.shade t 0 s = 0 ↔ 0 < Sp.truth t.goal := by
  unfold Sp.shade
  rw [dist_zero_iff (endS_lt t 0) hs]
  unfold Sp.endS
  rw [Sp.img_bit]
  constructor
  · rintro ⟨_, o, ho, h1, _⟩
    refine Nat.pos_of_ne_zero fun e => ?_
    rw [e] at h1; simp at h1
  · intro h
    refine Classical.byContradiction fun hn => ?_
    have : Sp.truth t.goal = 0 := Sp.set_ext (truth_bd _) (by decide) fun o ho => by
      refine ⟨fun h1 => absurd ⟨hs, o, ho, h1, by simp [Sp.agree]⟩ hn, fun h1 => by simp at h1⟩
    omega

end Go.Proofs.Ytjmpfemlihjibaa
