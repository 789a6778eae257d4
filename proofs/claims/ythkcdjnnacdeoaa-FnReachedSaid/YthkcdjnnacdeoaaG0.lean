/- Plain: sets of states, what is behind them, distances. No program in sight. No condition. -/
import Derived.Test.YthkcdjnnacdeoaaPlain
namespace Go.Proofs.Ythkcdjnnacdeoaa.Sp

/-- how many of the first n -/
def cu : Nat → (Nat → Bool) → Nat
  | 0, _ => 0
  | n + 1, p => cu n p + if p n then 1 else 0

theorem cu_le (n : Nat) (p : Nat → Bool) : cu n p ≤ n := by
  induction n with
  | zero => simp [cu]
  | succ n ih => simp only [cu]; split <;> omega

theorem cu_mono (n : Nat) (p q : Nat → Bool) (h : ∀ s, s < n → p s = true → q s = true) : cu n p ≤ cu n q := by
  induction n with
  | zero => simp [cu]
  | succ n ih =>
    have := ih (fun s hs => h s (by omega))
    simp only [cu]
    by_cases hp : p n = true
    · rw [if_pos hp, if_pos (h n (by omega) hp)]; omega
    · rw [if_neg hp]; split <;> omega

theorem cu_lt (n : Nat) (p q : Nat → Bool) (h : ∀ s, s < n → p s = true → q s = true) (k : Nat) (hk : k < n) (h1 : p k = false) (h2 : q k = true) : cu n p < cu n q := by
  induction n with
  | zero => omega
  | succ n ih =>
    simp only [cu]
    by_cases e : k = n
    · subst e
      have := cu_mono k p q (fun s hs => h s (by omega))
      rw [h1, h2]; simp; omega
    · have := ih (fun s hs => h s (by omega)) (by omega)
      by_cases hp : p n = true
      · rw [if_pos hp, if_pos (h n (by omega) hp)]; omega
      · rw [if_neg hp]; split <;> omega

def has (S s : Nat) : Bool := S.testBit s
def card (S : Nat) : Nat := cu 32 (fun s => S.testBit s)

/-- whether one of the first n has a property -/
def ex : Nat → (Nat → Bool) → Bool
  | 0, _ => false
  | n + 1, p => ex n p || p n

theorem ex_iff (n : Nat) (p : Nat → Bool) : ex n p = true ↔ ∃ s, s < n ∧ p s = true := by
  induction n with
  | zero => simp [ex]
  | succ n ih =>
    simp only [ex, Bool.or_eq_true, ih]
    constructor
    · rintro (⟨s, hs, h⟩ | h)
      · exact ⟨s, by omega, h⟩
      · exact ⟨n, by omega, h⟩
    · rintro ⟨s, hs, h⟩
      by_cases e : s = n
      · subst e; exact .inr h
      · exact .inl ⟨s, by omega, h⟩

/-- what is behind a set by a relation -/
def img (rel : Nat → Nat → Bool) (S : Nat) : Nat := setOf 32 (fun s => ex 32 (fun s0 => S.testBit s0 && rel s0 s))

theorem img_bit (rel : Nat → Nat → Bool) (S s : Nat) : (img rel S).testBit s = true ↔ s < 32 ∧ ∃ s0, s0 < 32 ∧ S.testBit s0 = true ∧ rel s0 s = true := by
  unfold img
  rw [testBit_setOf]
  simp only [Bool.and_eq_true, decide_eq_true_eq, ex_iff]

theorem img_lt (rel : Nat → Nat → Bool) (S : Nat) : img rel S < 2 ^ 32 := setOf_lt _ _

theorem bit_ge {S s : Nat} (hS : S < 2 ^ 32) (hs : 32 ≤ s) : S.testBit s = false :=
  Nat.testBit_lt_two_pow (Nat.lt_of_lt_of_le hS (Nat.pow_le_pow_right (by decide) hs))

theorem set_ext {A B : Nat} (hA : A < 2 ^ 32) (hB : B < 2 ^ 32) (h : ∀ s, s < 32 → (A.testBit s = true ↔ B.testBit s = true)) : A = B := by
  apply Nat.eq_of_testBit_eq
  intro s
  by_cases hs : s < 32
  · rw [Bool.eq_iff_iff]; exact h s hs
  · rw [bit_ge hA (by omega), bit_ge hB (by omega)]

theorem or_lt {A B : Nat} (hA : A < 2 ^ 32) (hB : B < 2 ^ 32) : A ||| B < 2 ^ 32 := Nat.or_lt_two_pow hA hB

/-- what is reached by at most n steps -/
def rch (rel : Nat → Nat → Bool) (S : Nat) : Nat → Nat
  | 0 => S
  | n + 1 => rch rel S n ||| img rel (rch rel S n)

/-- what is reached by n steps and no fewer -/
def fr (rel : Nat → Nat → Bool) (S : Nat) : Nat → Nat
  | 0 => S
  | n + 1 => setOf 32 (fun s => (img rel (rch rel S n)).testBit s && !(rch rel S n).testBit s)

section
variable {rel : Nat → Nat → Bool} {S : Nat}

theorem rch_lt (hS : S < 2 ^ 32) (n : Nat) : rch rel S n < 2 ^ 32 := by
  induction n with
  | zero => exact hS
  | succ n ih => exact or_lt ih (img_lt _ _)

theorem fr_lt (hS : S < 2 ^ 32) (n : Nat) : fr rel S n < 2 ^ 32 := by
  cases n with
  | zero => exact hS
  | succ n => exact setOf_lt _ _

theorem rch_succ (n s : Nat) : (rch rel S (n + 1)).testBit s = ((rch rel S n).testBit s || (img rel (rch rel S n)).testBit s) := by
  show (rch rel S n ||| img rel (rch rel S n)).testBit s = _
  rw [Nat.testBit_or]

theorem fr_succ (n s : Nat) (hs : s < 32) : (fr rel S (n + 1)).testBit s = ((img rel (rch rel S n)).testBit s && !(rch rel S n).testBit s) := by
  show (setOf 32 _).testBit s = _
  rw [testBit_setOf]; simp [hs]

theorem rch_fr (n s : Nat) (hs : s < 32) : (rch rel S (n + 1)).testBit s = ((rch rel S n).testBit s || (fr rel S (n + 1)).testBit s) := by
  rw [rch_succ, fr_succ n s hs]
  cases (rch rel S n).testBit s <;> simp

theorem rch_mono {n m : Nat} (h : n ≤ m) (s : Nat) (hb : (rch rel S n).testBit s = true) : (rch rel S m).testBit s = true := by
  induction m with
  | zero => obtain rfl : n = 0 := by omega
            exact hb
  | succ m ih =>
    by_cases e : n = m + 1
    · subst e; exact hb
    · rw [rch_succ, ih (by omega)]; rfl

/-- the front moves on: what is new comes of what was new -/
theorem fr_front (_hS : S < 2 ^ 32) (n s : Nat) (hs : s < 32) : (fr rel S (n + 1)).testBit s = true ↔ (img rel (fr rel S n)).testBit s = true ∧ (rch rel S n).testBit s = false := by
  rw [fr_succ n s hs]
  simp only [Bool.and_eq_true, Bool.not_eq_true']
  refine ⟨fun ⟨h1, h2⟩ => ⟨?_, h2⟩, fun ⟨h1, h2⟩ => ⟨?_, h2⟩⟩
  · obtain ⟨_, s0, hs0, hb, hr⟩ := (img_bit _ _ _).1 h1
    refine (img_bit _ _ _).2 ⟨hs, s0, hs0, ?_, hr⟩
    cases n with
    | zero => exact hb
    | succ n =>
      rw [rch_fr n s0 hs0, Bool.or_eq_true] at hb
      rcases hb with hb | hb
      · exfalso
        have : (rch rel S (n + 1)).testBit s = true := by
          rw [rch_succ, Bool.or_eq_true]
          exact .inr ((img_bit _ _ _).2 ⟨hs, s0, hs0, hb, hr⟩)
        rw [this] at h2; cases h2
      · exact hb
  · obtain ⟨_, s0, hs0, hb, hr⟩ := (img_bit _ _ _).1 h1
    refine (img_bit _ _ _).2 ⟨hs, s0, hs0, ?_, hr⟩
    cases n with
    | zero => exact hb
    | succ n => rw [rch_fr n s0 hs0, hb]; simp

theorem fr_zero_next {n : Nat} (hS : S < 2 ^ 32) (h : fr rel S n = 0) : fr rel S (n + 1) = 0 := by
  refine set_ext (fr_lt hS _) (by decide) fun s hs => ?_
  rw [fr_front hS n s hs, h]
  simp only [Nat.zero_testBit, Bool.false_eq_true, iff_false, not_and]
  intro h1
  obtain ⟨_, s0, _, hb, _⟩ := (img_bit _ _ _).1 h1
  simp at hb

theorem fr_zero_all {n m : Nat} (hS : S < 2 ^ 32) (h : fr rel S n = 0) (hm : n ≤ m) : fr rel S m = 0 := by
  induction m with
  | zero => obtain rfl : n = 0 := by omega
            exact h
  | succ m ih =>
    by_cases e : n = m + 1
    · subst e; exact h
    · exact fr_zero_next hS (ih (by omega))

theorem nonzero_bit {A : Nat} (hA : A < 2 ^ 32) (h : A ≠ 0) : ∃ s, s < 32 ∧ A.testBit s = true := by
  apply Classical.byContradiction
  intro hn
  apply h
  refine set_ext hA (by decide) fun s hs => ?_
  simp only [Nat.zero_testBit, Bool.false_eq_true, iff_false]
  intro hb
  exact hn ⟨s, hs, hb⟩

/-- as long as there is something new, there are more and more states -/
theorem card_rch (hS : S < 2 ^ 32) (n : Nat) (h : fr rel S n ≠ 0) : n + 1 ≤ card (rch rel S n) := by
  induction n with
  | zero =>
    obtain ⟨s, hs, hb⟩ := nonzero_bit (fr_lt hS 0) h
    have := cu_lt 32 (fun _ => false) (fun s => (rch rel S 0).testBit s) (fun _ _ h => by cases h) s hs rfl hb
    unfold card
    omega
  | succ n ih =>
    have h0 : fr rel S n ≠ 0 := fun e => h (fr_zero_next hS e)
    have := ih h0
    obtain ⟨s, hs, hb⟩ := nonzero_bit (fr_lt hS _) h
    have h2 : (rch rel S n).testBit s = false := ((fr_front hS n s hs).1 hb).2
    have := cu_lt 32 (fun s => (rch rel S n).testBit s) (fun s => (rch rel S (n + 1)).testBit s) (fun s _ h => by rw [rch_succ, h]; rfl) s hs h2 (by rw [rch_fr n s hs, hb]; simp)
    unfold card at *
    omega

theorem fr_bound (hS : S < 2 ^ 32) (n : Nat) (h : fr rel S n ≠ 0) : n ≤ 31 := by
  have h1 := card_rch hS n h
  have h2 := cu_le 32 (fun s => (rch rel S n).testBit s)
  unfold card at h1
  omega

theorem rch_stop (hS : S < 2 ^ 32) {n : Nat} (h : fr rel S (n + 1) = 0) {m : Nat} (hm : n ≤ m) : rch rel S m = rch rel S n := by
  induction m with
  | zero => obtain rfl : n = 0 := by omega
            rfl
  | succ m ih =>
    by_cases e : n = m + 1
    · subst e; rfl
    · rw [← ih (by omega)]
      refine set_ext (rch_lt hS _) (rch_lt hS _) fun s hs => ?_
      rw [rch_fr m s hs, fr_zero_all hS h (show n + 1 ≤ m + 1 by omega)]
      simp

/-- the number of steps to a state, -1 if it is not reached -/
def dist (rel : Nat → Nat → Bool) (S s : Nat) : Int := match (List.range 32).find? (fun n => (fr rel S n).testBit s) with | some n => n | none => -1

theorem fr_rch {n m s : Nat} (hs : s < 32) (h : (fr rel S m).testBit s = true) (hn : m ≤ n) : (rch rel S n).testBit s = true := by
  refine rch_mono hn s ?_
  cases m with
  | zero => exact h
  | succ m => rw [rch_fr m s hs, h]; simp

theorem fr_once (hS : S < 2 ^ 32) {n m s : Nat} (hs : s < 32) (h1 : (fr rel S n).testBit s = true) (h2 : (fr rel S m).testBit s = true) : n = m := by
  rcases Nat.lt_trichotomy n m with h | h | h
  · exfalso
    cases m with
    | zero => omega
    | succ m =>
      have := ((fr_front hS m s hs).1 h2).2
      rw [fr_rch hs h1 (by omega)] at this
      cases this
  · exact h
  · exfalso
    cases n with
    | zero => omega
    | succ n =>
      have := ((fr_front hS n s hs).1 h1).2
      rw [fr_rch hs h2 (by omega)] at this
      cases this

theorem dist_yes (hS : S < 2 ^ 32) {n s : Nat} (hs : s < 32) (h : (fr rel S n).testBit s = true) : dist rel S s = n := by
  have hn : n ≤ 31 := fr_bound hS n (fun e => by rw [e] at h; simp at h)
  unfold dist
  cases hf : (List.range 32).find? (fun n => (fr rel S n).testBit s) with
  | none =>
    have := List.find?_eq_none.1 hf n (List.mem_range.2 (by omega))
    simp [h] at this
  | some m =>
    have h1 := List.find?_some hf
    have := fr_once hS hs h h1
    simp only
    omega

theorem dist_no {s : Nat} (h : ∀ n, n < 32 → (fr rel S n).testBit s = false) : dist rel S s = -1 := by
  unfold dist
  cases hf : (List.range 32).find? (fun n => (fr rel S n).testBit s) with
  | none => rfl
  | some m =>
    have h1 := List.find?_some hf
    rw [h m (List.mem_range.1 (List.mem_of_find?_eq_some hf))] at h1
    cases h1

theorem dist_cases (hS : S < 2 ^ 32) (s : Nat) (hs : s < 32) : (dist rel S s = -1 ∧ ∀ n, (fr rel S n).testBit s = false) ∨ ∃ n : Nat, n ≤ 31 ∧ dist rel S s = n ∧ (fr rel S n).testBit s = true := by
  by_cases h : ∃ n, (fr rel S n).testBit s = true
  · obtain ⟨n, hn⟩ := h
    refine .inr ⟨n, fr_bound hS n (fun e => by rw [e] at hn; simp at hn), dist_yes hS hs hn, hn⟩
  · refine .inl ⟨dist_no fun n _ => ?_, fun n => ?_⟩
    all_goals
      cases e : (fr rel S n).testBit s
      · rfl
      · exact absurd ⟨n, e⟩ h

theorem rch_dist (hS : S < 2 ^ 32) (n s : Nat) (hs : s < 32) : (rch rel S n).testBit s = true ↔ 0 ≤ dist rel S s ∧ dist rel S s ≤ n := by
  constructor
  · intro h
    induction n with
    | zero =>
      have := dist_yes (rel := rel) (n := 0) hS hs h
      omega
    | succ n ih =>
      rw [rch_fr n s hs, Bool.or_eq_true] at h
      rcases h with h | h
      · have := ih h; omega
      · have := dist_yes hS hs h; omega
  · rintro ⟨h0, h1⟩
    rcases dist_cases (rel := rel) hS s hs with ⟨h2, _⟩ | ⟨m, _, h2, h3⟩
    · omega
    · exact fr_rch hs h3 (by omega)
end

end Go.Proofs.Ythkcdjnnacdeoaa.Sp
