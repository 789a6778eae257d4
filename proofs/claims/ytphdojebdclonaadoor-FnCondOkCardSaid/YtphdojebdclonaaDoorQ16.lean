/- Joined texts. No condition. -/
import Derived.Test.YtphdojebdclonaaDoorQ13
import Derived.Test.YtphdojebdclonaaDoorQ4
/- Plain: what is reached and what leads to the end, closed; distances along edges. No program in sight. No condition. -/
namespace Go.Proofs.YtphdojebdclonaaDoor
set_option linter.unusedSimpArgs false
set_option linter.unusedVariables false
open Go.RowKit

section
variable {rel : Nat → Nat → Bool} {S : Nat}
theorem fr_last (hS : S < 2 ^ 32) : Sp.fr rel S 32 = 0 := Classical.byContradiction fun h => by have := Sp.fr_bound hS 32 h; omega
/-- all that is reached -/
theorem all_closed (hS : S < 2 ^ 32) {a b : Nat} (ha : a < 32) (hb : b < 32) (h : (Sp.rch rel S 32).testBit a = true) (hr : rel a b = true) : (Sp.rch rel S 32).testBit b = true := by
  have h1 : (Sp.rch rel S 33).testBit b = true := by
    show (Sp.rch rel S (32 + 1)).testBit b = true
    rw [Sp.rch_succ, Bool.or_eq_true]
    exact .inr ((Sp.img_bit _ _ _).2 ⟨hb, a, ha, h, hr⟩)
  rwa [Sp.rch_stop hS (Sp.fr_zero_next hS (fr_last hS)) (show 32 ≤ 33 by omega)] at h1
theorem all_img (hS : S < 2 ^ 32) : Sp.img rel (Sp.rch rel S 32) &&& Sp.rch rel S 32 = Sp.img rel (Sp.rch rel S 32) := by
  refine Sp.set_ext (Nat.lt_of_le_of_lt Nat.and_le_left (Sp.img_lt _ _)) (Sp.img_lt _ _) fun s hs => ?_
  rw [Nat.testBit_and, Bool.and_eq_true]
  refine ⟨fun h => h.1, fun h => ⟨h, ?_⟩⟩
  obtain ⟨_, s0, h0, h1, h2⟩ := (Sp.img_bit _ _ _).1 h
  exact all_closed hS h0 hs h1 h2
theorem all_from (hS : S < 2 ^ 32) (n : Nat) : S &&& Sp.rch rel S n = S := by
  refine Sp.set_ext (Nat.lt_of_le_of_lt Nat.and_le_left hS) hS fun s hs => ?_
  rw [Nat.testBit_and, Bool.and_eq_true]
  exact ⟨fun h => h.1, fun h => ⟨h, Sp.rch_mono (n := 0) (Nat.zero_le _) s h⟩⟩
theorem rch_ind (P : Nat → Prop) (h0 : ∀ s, s < 32 → S.testBit s = true → P s) (h1 : ∀ a b, a < 32 → b < 32 → P a → rel a b = true → P b) (n : Nat) : ∀ s, s < 32 → (Sp.rch rel S n).testBit s = true → P s := by
  induction n with
  | zero => exact h0
  | succ n ih =>
    intro s hs h
    rw [Sp.rch_succ, Bool.or_eq_true] at h
    rcases h with h | h
    · exact ih s hs h
    · obtain ⟨_, a, ha, h2, h3⟩ := (Sp.img_bit _ _ _).1 h
      exact h1 a s ha hs (ih a ha h2) h3
/-- the loop's end: nothing more -/
theorem rch_same (hS : S < 2 ^ 32) {m : Nat} (h : Sp.rch rel S (m + 1) = Sp.rch rel S m) (hm : m ≤ 31) : Sp.rch rel S 32 = Sp.rch rel S m := by
  refine Sp.rch_stop hS ?_ (by omega)
  refine Sp.set_ext (Sp.fr_lt hS _) (by decide) fun s hs => ?_
  have h1 := Sp.rch_fr (rel := rel) (S := S) m s hs
  rw [Sp.fr_front hS m s hs]
  simp only [Nat.zero_testBit, Bool.false_eq_true, iff_false]
  rintro ⟨h2, h3⟩
  have h4 : (Sp.fr rel S (m + 1)).testBit s = true := (Sp.fr_front hS m s hs).2 ⟨h2, h3⟩
  rw [h, h3, h4] at h1
  cases h1
theorem rch_more (hS : S < 2 ^ 32) {m : Nat} (h : Sp.rch rel S (m + 1) ≠ Sp.rch rel S m) : m + 1 ≤ 31 := by
  refine Sp.fr_bound (rel := rel) hS (m + 1) fun h0 => h ?_
  refine Sp.set_ext (Sp.rch_lt hS _) (Sp.rch_lt hS _) fun s hs => ?_
  rw [Sp.rch_fr m s hs, h0]; simp

theorem dist_iff (hS : S < 2 ^ 32) {s : Nat} (hs : s < 32) : 0 ≤ Sp.dist rel S s ↔ (Sp.rch rel S 32).testBit s = true := by
  have := dist_bd (rel := rel) hS s hs
  rw [Sp.rch_dist hS 32 s hs]
  omega
theorem dist_zero_iff (hS : S < 2 ^ 32) {s : Nat} (hs : s < 32) : Sp.dist rel S s = 0 ↔ S.testBit s = true := by
  have := Sp.rch_dist (rel := rel) hS 0 s hs
  refine Iff.trans ?_ this.symm
  omega
/-- an edge: at most one step more -/
theorem dist_edge (hS : S < 2 ^ 32) {a b : Nat} (ha : a < 32) (hb : b < 32) (h : 0 ≤ Sp.dist rel S a) (hr : rel a b = true) : 0 ≤ Sp.dist rel S b ∧ Sp.dist rel S b ≤ Sp.dist rel S a + 1 := by
  obtain ⟨n, hn⟩ := Int.eq_ofNat_of_zero_le h
  have h1 := (Sp.rch_dist (rel := rel) hS n a ha).2 ⟨h, by omega⟩
  have h2 : (Sp.rch rel S (n + 1)).testBit b = true := by
    rw [Sp.rch_succ, Bool.or_eq_true]
    exact .inr ((Sp.img_bit _ _ _).2 ⟨hb, a, ha, h1, hr⟩)
  have := (Sp.rch_dist (rel := rel) hS (n + 1) b hb).1 h2
  omega
/-- the step before -/
theorem dist_before (hS : S < 2 ^ 32) {b : Nat} {n : Nat} (hb : b < 32) (h : Sp.dist rel S b = (n : Int) + 1) : ∃ a, a < 32 ∧ Sp.dist rel S a = n ∧ rel a b = true := by
  rcases Sp.dist_cases (rel := rel) hS b hb with ⟨h1, _⟩ | ⟨m, hm, h1, h2⟩
  · omega
  · obtain rfl : m = n + 1 := by omega
    obtain ⟨_, a, ha, h3, h4⟩ := (Sp.img_bit _ _ _).1 ((Sp.fr_front hS n b hb).1 h2).1
    exact ⟨a, ha, Sp.dist_yes hS ha h3, h4⟩
end

/-- forward and backward reach the same -/
theorem meet_all (rel : Nat → Nat → Bool) {s0 G : Nat} (hs : s0 < 32) (hG : G < 2 ^ 32) : (∃ s, s < 32 ∧ (Sp.rch rel (2 ^ s0) 32).testBit s = true ∧ G.testBit s = true) ↔ (Sp.rch (Sp.rev rel) G 32).testBit s0 = true := by
  have hS : 2 ^ s0 < 2 ^ 32 := Nat.pow_lt_pow_right (by decide) hs
  constructor
  · rintro ⟨s, h0, h1, h2⟩
    have key : ∀ s, s < 32 → (Sp.rch rel (2 ^ s0) 32).testBit s = true → ((Sp.rch (Sp.rev rel) G 32).testBit s = true → (Sp.rch (Sp.rev rel) G 32).testBit s0 = true) := by
      refine rch_ind _ (fun s hs h => ?_) (fun a b ha hb ih hr h => ih (all_closed hG hb ha h hr)) 32
      rw [Nat.testBit_two_pow, decide_eq_true_eq] at h
      subst h
      exact id
    exact key s h0 h1 (Sp.rch_mono (n := 0) (Nat.zero_le _) s h2)
  · intro h
    refine Classical.byContradiction fun hn => ?_
    have key : ∀ s, s < 32 → (Sp.rch (Sp.rev rel) G 32).testBit s = true → ¬ (Sp.rch rel (2 ^ s0) 32).testBit s = true := by
      refine rch_ind _ (fun s hs h h2 => hn ⟨s, hs, h2, h⟩) (fun a b ha hb ih hr h => ih (all_closed hS hb ha h hr)) 32
    exact key s0 hs h (Sp.rch_mono (n := 0) (Nat.zero_le _) s0 (by show (2 ^ s0).testBit s0 = true; rw [Nat.testBit_two_pow]; simp))

/-- both ends: the sum of both numbers of a state is never less than that of the start -/
theorem dist_sum (rel : Nat → Nat → Bool) {s0 G : Nat} (hs : s0 < 32) (hG : G < 2 ^ 32) (n : Nat) : ∀ s, s < 32 → Sp.dist rel (2 ^ s0) s = (n : Int) → 0 ≤ Sp.dist (Sp.rev rel) G s → 0 ≤ Sp.dist (Sp.rev rel) G s0 ∧ Sp.dist (Sp.rev rel) G s0 ≤ n + Sp.dist (Sp.rev rel) G s := by
  have hS : 2 ^ s0 < 2 ^ 32 := Nat.pow_lt_pow_right (by decide) hs
  induction n with
  | zero =>
    intro s h0 h1 h2
    have h3 := (dist_zero_iff hS h0).1 h1
    rw [Nat.testBit_two_pow, decide_eq_true_eq] at h3
    subst h3
    omega
  | succ n ih =>
    intro s h0 h1 h2
    obtain ⟨a, ha, h3, h4⟩ := dist_before (rel := rel) (n := n) hS h0 (by omega)
    have h5 := dist_edge (rel := Sp.rev rel) hG h0 ha h2 (show Sp.rev rel s a = true from h4)
    have := ih a ha h3 h5.1
    omega
/-- some end is as near as the start's number tells -/
theorem dist_end (rel : Nat → Nat → Bool) {s0 G : Nat} (hs : s0 < 32) (hG : G < 2 ^ 32) (m : Nat) : ∀ s, s < 32 → 0 ≤ Sp.dist rel (2 ^ s0) s → Sp.dist (Sp.rev rel) G s = (m : Int) → ∃ k, k < 32 ∧ G.testBit k = true ∧ 0 ≤ Sp.dist rel (2 ^ s0) k ∧ Sp.dist rel (2 ^ s0) k ≤ Sp.dist rel (2 ^ s0) s + m := by
  have hS : 2 ^ s0 < 2 ^ 32 := Nat.pow_lt_pow_right (by decide) hs
  induction m with
  | zero => exact fun s h0 h1 h2 => ⟨s, h0, (dist_zero_iff hG h0).1 h2, h1, by omega⟩
  | succ m ih =>
    intro s h0 h1 h2
    obtain ⟨a, ha, h3, h4⟩ := dist_before (rel := Sp.rev rel) (n := m) hG h0 (by omega)
    have h5 := dist_edge (rel := rel) hS h0 ha h1 (show rel s a = true from h4)
    obtain ⟨k, h6, h7, h8, h9⟩ := ih a ha h5.1 h3
    exact ⟨k, h6, h7, h8, by omega⟩

theorem start_lt {t : Sp.Task} (h : Sp.taskOk t = true) : t.start.toNat < 32 := by have := Sp.taskOk_start h; omega
theorem start_set {t : Sp.Task} (h : Sp.taskOk t = true) : 2 ^ t.start.toNat < 2 ^ 32 := Nat.pow_lt_pow_right (by decide) (start_lt h)

/-- all that is reached from the start; all that leads to the end -/
def Sp.reachedN (t : Sp.Task) : Nat := Sp.rch (Sp.rel t) (2 ^ t.start.toNat) 32
def Sp.leadsN (t : Sp.Task) : Nat := Sp.rch (Sp.relB t) (Sp.truth t.goal) 32
def Sp.reached (t : Sp.Task) : Int := if Sp.taskOk t = true then (Sp.reachedN t : Nat) else -1
def Sp.leadsTo (t : Sp.Task) : Int := if Sp.taskOk t = true then (Sp.leadsN t : Nat) else -1
theorem reachedN_lt {t : Sp.Task} (h : Sp.taskOk t = true) : Sp.reachedN t < 4294967296 := Sp.rch_lt (start_set h) 32
theorem leadsN_lt (t : Sp.Task) : Sp.leadsN t < 4294967296 := Sp.rch_lt (truth_bd _) 32

end Go.Proofs.YtphdojebdclonaaDoor
