/- Joined texts. No condition. -/
import Derived.WalkKit
import Derived.WalkSpells
import Derived.KernelRfl
import Derived.Lib.Hide
import Derived.Deep.Draws
/- The plain model of tasks, codes and states: no program in sight. Plain: sets of states, what is behind them, distances. No program in sight. Words for memory: what a slice of integers, a slice of deeds and a task read as, and that they are kept by whatever leaves old memory alone. More words for memory. No condition. -/
namespace Go.Proofs.YtphdojebdclonaaDoor.Sp
set_option linter.unusedSimpArgs false
set_option linter.unusedVariables false

structure Deed where
  need : List Int
  on : Int
  off : Int
  flip : Int
  deriving Inhabited, DecidableEq

structure Task where
  start : Int
  goal : List Int
  deeds : List Deed
  deriving Inhabited, DecidableEq

def inI (x : Int) : Prop := -9223372036854775808 ≤ x ∧ x ≤ 9223372036854775807

theorem take_foldl {α β : Type} [Inhabited α] (l : List α) (f : β → α → β) (b : β) (k : Nat) (h : k < l.length) :
    (l.take (k + 1)).foldl f b = f ((l.take k).foldl f b) (l.getD k default) := by
  rw [List.take_succ_eq_append_getElem h, List.foldl_append]
  simp [List.getD, h]

theorem take_all {α : Type} (l : List α) (k : Nat) (h : l.length ≤ k) : l.take k = l := List.take_of_length_le h

/-! codes -/

def takes (s : Int) : Nat := if s = 7 then 1 else if s = 8 ∨ s = 9 then 2 else 0

def dstep (o : Option (Nat × Nat)) (s : Int) : Option (Nat × Nat) :=
  match o with
  | none => none
  | some p => if 0 ≤ s ∧ s ≤ 9 ∧ takes s ≤ p.1 then some (p.1 - takes s + 1, max p.2 (p.1 - takes s + 1)) else none

def depthOf (l : List Int) : Option (Nat × Nat) := l.foldl dstep (some (0, 0))

def codeDepth (l : List Int) : Int :=
  match depthOf l with
  | none => -1
  | some p => if 1 ≤ l.length ∧ l.length ≤ 40 ∧ p.1 = 1 then p.2 else -1

def codeOk (l : List Int) : Bool := codeDepth l != -1

def rstep (s : Nat) (st : List Bool) (c : Int) : List Bool :=
  if c = 7 then (!st.headD false) :: st.tail
  else if c = 8 then (st.tail.headD false && st.headD false) :: st.tail.tail
  else if c = 9 then (st.tail.headD false || st.headD false) :: st.tail.tail
  else if c = 5 then true :: st
  else if c = 6 then false :: st
  else s.testBit c.toNat :: st

def stackOf (l : List Int) (s : Nat) : List Bool := l.foldl (rstep s) []

def run (l : List Int) (s : Nat) : Bool := (stackOf l s).headD false

theorem dstep_none (l : List Int) : l.foldl dstep none = none := by
  induction l with
  | nil => rfl
  | cons a l ih => simpa [dstep] using ih

theorem depth_take_none (l : List Int) (k : Nat) (h : depthOf (l.take k) = none) : depthOf l = none := by
  have e : l = l.take k ++ l.drop k := (List.take_append_drop k l).symm
  rw [e]
  unfold depthOf at *
  rw [List.foldl_append, h, dstep_none]

theorem depth_snoc (l : List Int) (k : Nat) (h : k < l.length) : depthOf (l.take (k + 1)) = dstep (depthOf (l.take k)) (l.getD k default) :=
  take_foldl l dstep _ k h

theorem depth_le (l : List Int) (k : Nat) : ∀ p, depthOf (l.take k) = some p → p.1 ≤ k ∧ p.2 ≤ k := by
  induction k with
  | zero => intro p hp; simp [depthOf] at hp; subst hp; simp
  | succ k ih =>
    intro p hp
    by_cases hk : k < l.length
    · rw [depth_snoc l k hk] at hp
      cases hq : depthOf (l.take k) with
      | none => rw [hq] at hp; simp [dstep] at hp
      | some q =>
        rw [hq] at hp
        obtain ⟨h1, h2⟩ := ih q hq
        simp only [dstep] at hp
        split at hp
        · rename_i hc
          simp only [Option.some.injEq] at hp
          subst hp
          have := hc.2.2
          simp only
          omega
        · simp at hp
    · have e : l.take (k + 1) = l.take k := by rw [List.take_of_length_le (by omega), List.take_of_length_le (by omega)]
      rw [e] at hp
      have := ih p hp
      omega

theorem depth_most (l : List Int) : ∀ p, depthOf l = some p → l ≠ [] → 1 ≤ p.2 := by
  intro p hp hne
  have hl : 0 < l.length := List.length_pos_iff.2 hne
  have e : l = l.take (l.length - 1 + 1) := by rw [Nat.sub_add_cancel hl, List.take_length]
  rw [e, depth_snoc l _ (by omega)] at hp
  cases hq : depthOf (l.take (l.length - 1)) with
  | none => rw [hq] at hp; simp [dstep] at hp
  | some q =>
    rw [hq] at hp
    simp only [dstep] at hp
    split at hp
    · simp only [Option.some.injEq] at hp
      subst hp
      simp only
      omega
    · simp at hp

theorem codeDepth_eq (l : List Int) : codeDepth l = -1 ∨ (1 ≤ codeDepth l ∧ ∃ p, depthOf l = some p ∧ p.1 = 1 ∧ 1 ≤ l.length ∧ l.length ≤ 40) := by
  unfold codeDepth
  split
  · left; rfl
  · rename_i p hp
    split
    · rename_i h
      right
      have := depth_most l p hp (by intro e; subst e; simp at h)
      exact ⟨by omega, p, hp, h.2.2, h.1, h.2.1⟩
    · left; rfl

theorem codeOk_iff (l : List Int) : codeOk l = true ↔ ∃ p, depthOf l = some p ∧ p.1 = 1 ∧ 1 ≤ l.length ∧ l.length ≤ 40 := by
  unfold codeOk
  constructor
  · intro h
    rcases codeDepth_eq l with h1 | h1
    · rw [h1] at h; simp at h
    · exact h1.2
  · rintro ⟨p, hp, h1, h2, h3⟩
    have := depth_most l p hp (by intro e; subst e; simp at h2)
    unfold codeDepth
    rw [hp]
    simp only [h1, h2, h3, and_self, if_true, bne_iff_ne, ne_eq]
    omega

theorem codeOk_pos (l : List Int) : codeOk l = decide (0 < codeDepth l) := by
  unfold codeOk
  rcases codeDepth_eq l with h | h
  · rw [h]; rfl
  · have h1 := h.1
    rw [Bool.eq_iff_iff]; simp only [bne_iff_ne, ne_eq, decide_eq_true_eq]; omega

/-- The first steps of a valid code: its depth stands, and the next step finds what it takes. -/
theorem codeOk_step (l : List Int) (h : codeOk l = true) (k : Nat) (hk : k < l.length) :
    ∃ p, depthOf (l.take k) = some p ∧ 0 ≤ l.getD k default ∧ l.getD k default ≤ 9 ∧ takes (l.getD k default) ≤ p.1 ∧ p.1 ≤ k ∧ k < 40 := by
  obtain ⟨q, hq, _, _, h40⟩ := (codeOk_iff l).1 h
  cases hp : depthOf (l.take (k + 1)) with
  | none => rw [depth_take_none l _ hp] at hq; simp at hq
  | some r =>
    rw [depth_snoc l k hk] at hp
    cases hp' : depthOf (l.take k) with
    | none => rw [hp'] at hp; simp [dstep] at hp
    | some p =>
      rw [hp'] at hp
      simp only [dstep] at hp
      split at hp
      · rename_i hc
        exact ⟨p, rfl, hc.1, hc.2.1, hc.2.2, (depth_le l k p hp').1, by omega⟩
      · simp at hp

theorem stack_snoc (l : List Int) (s k : Nat) (h : k < l.length) : stackOf (l.take (k + 1)) s = rstep s (stackOf (l.take k) s) (l.getD k default) :=
  take_foldl l (rstep s) _ k h

theorem stack_len (l : List Int) (s : Nat) (k : Nat) : ∀ p, depthOf (l.take k) = some p → (stackOf (l.take k) s).length = p.1 := by
  induction k with
  | zero => intro p hp; simp [depthOf] at hp; subst hp; simp [stackOf]
  | succ k ih =>
    intro p hp
    by_cases hk : k < l.length
    · rw [depth_snoc l k hk] at hp
      rw [stack_snoc l s k hk]
      cases hq : depthOf (l.take k) with
      | none => rw [hq] at hp; simp [dstep] at hp
      | some q =>
        rw [hq] at hp
        have hl := ih q hq
        simp only [dstep] at hp
        split at hp
        · rename_i hc
          simp only [Option.some.injEq] at hp
          subst hp
          have h3 := hc.2.2
          unfold takes at h3 ⊢
          unfold rstep
          simp only
          by_cases e7 : l.getD k default = 7
          · simp only [e7, if_true] at h3 ⊢
            simp only [List.length_cons, List.length_tail, hl]
          · by_cases e8 : l.getD k default = 8
            · simp only [e8, if_true] at h3 ⊢
              simp at h3 ⊢; omega
            · by_cases e9 : l.getD k default = 9
              · simp only [e9] at h3 ⊢
                simp at h3 ⊢; omega
              · simp only [e7, e8, e9, if_false, or_self] at h3 ⊢
                (repeat' split) <;> simp [hl]
        · simp at hp
    · have e : l.take (k + 1) = l.take k := by rw [List.take_of_length_le (by omega), List.take_of_length_le (by omega)]
      rw [e] at hp ⊢
      exact ih p hp

theorem stack_last (l : List Int) (s : Nat) (h : codeOk l = true) : (stackOf l s).length = 1 := by
  obtain ⟨q, hq, h1, _, _⟩ := (codeOk_iff l).1 h
  have := stack_len l s l.length q (by rw [List.take_length]; exact hq)
  rw [List.take_length] at this
  omega

/-! sets of states as numbers -/

def setOf : Nat → (Nat → Bool) → Nat
  | 0, _ => 0
  | n + 1, f => setOf n f + if f n then 2 ^ n else 0

theorem setOf_lt (n : Nat) (f : Nat → Bool) : setOf n f < 2 ^ n := by
  induction n with
  | zero => simp [setOf]
  | succ n ih =>
    simp only [setOf]
    rw [Nat.pow_succ]
    split <;> omega

theorem testBit_setOf (n : Nat) (f : Nat → Bool) (k : Nat) : (setOf n f).testBit k = (decide (k < n) && f k) := by
  induction n with
  | zero => simp [setOf]
  | succ n ih =>
    simp only [setOf]
    have hlt := setOf_lt n f
    have e : setOf n f + (if f n then 2 ^ n else 0) = 2 ^ n * (if f n then 1 else 0) + setOf n f := by
      split <;> omega
    rw [e, Nat.testBit_two_pow_mul_add _ hlt]
    by_cases hk : k < n
    · rw [if_pos hk, ih]; simp [hk, Nat.lt_succ_of_lt hk]
    · rw [if_neg hk]
      by_cases hkn : k = n
      · subst hkn; split <;> simp [*]
      · have h0 : 0 < k - n := by omega
        have : ¬ k < n + 1 := by omega
        simp only [this, decide_false, Bool.false_and]
        split
        · rw [Bool.eq_false_iff, ne_eq, Nat.testBit_one_eq_true_iff_self_eq_zero]; omega
        · simp

theorem setOf_or (n : Nat) (f : Nat → Bool) (h : f n = true) : setOf n f ||| 2 ^ n = setOf (n + 1) f := by
  apply Nat.eq_of_testBit_eq
  intro k
  rw [Nat.testBit_or, testBit_setOf, testBit_setOf, Nat.testBit_two_pow]
  by_cases hk : k < n
  · simp [hk, Nat.lt_succ_of_lt hk]; intro e; omega
  · by_cases e : n = k
    · subst e; simp [h]
    · have : ¬ k < n + 1 := by omega
      simp [hk, e, this]

theorem setOf_congr (n : Nat) (f g : Nat → Bool) (h : ∀ k, k < n → f k = g k) : setOf n f = setOf n g := by
  induction n with
  | zero => rfl
  | succ n ih =>
    simp only [setOf]
    rw [ih (fun k hk => h k (by omega)), h n (by omega)]

def truth (l : List Int) : Nat := setOf 32 (run l)

/-! tasks -/

def stOk (s : Int) : Bool := decide (0 ≤ s ∧ s ≤ 31)

def deedOk (d : Deed) : Bool :=
  codeOk d.need && stOk d.on && stOk d.off && stOk d.flip && (d.on.toNat &&& d.off.toNat == 0) && (d.on.toNat &&& d.flip.toNat == 0) && (d.off.toNat &&& d.flip.toNat == 0)

def taskOk (t : Task) : Bool := stOk t.start && codeOk t.goal && decide (t.deeds.length ≤ 6) && t.deeds.all deedOk

def behind (d : Deed) (s : Nat) : Nat := (((s ||| d.on.toNat) &&& (31 ^^^ d.off.toNat)) ^^^ d.flip.toNat)

end Go.Proofs.YtphdojebdclonaaDoor.Sp

namespace Go.Proofs.YtphdojebdclonaaDoor.Sp
set_option linter.unusedSimpArgs false
set_option linter.unusedVariables false

/-- how many of the first n -/
def cu : Nat → (Nat → Bool) → Nat
  | 0, _ => 0
  | n + 1, p => cu n p + if p n then 1 else 0

theorem cu_le (n : Nat) (p : Nat → Bool) : cu n p ≤ n := by
  induction n with
  | zero => simp [cu]
  | succ n ih => simp only [cu]; split <;> omega

theorem cu_mono (n : Nat) (p q : Nat → Bool) (h : ∀ s, s < n → p s = true → q s = true) : cu n p ≤ cu n q := by
  induction n with
  | zero => simp [cu]
  | succ n ih =>
    have := ih (fun s hs => h s (by omega))
    simp only [cu]
    by_cases hp : p n = true
    · rw [if_pos hp, if_pos (h n (by omega) hp)]; omega
    · rw [if_neg hp]; split <;> omega

theorem cu_lt (n : Nat) (p q : Nat → Bool) (h : ∀ s, s < n → p s = true → q s = true) (k : Nat) (hk : k < n) (h1 : p k = false) (h2 : q k = true) : cu n p < cu n q := by
  induction n with
  | zero => omega
  | succ n ih =>
    simp only [cu]
    by_cases e : k = n
    · subst e
      have := cu_mono k p q (fun s hs => h s (by omega))
      rw [h1, h2]; simp; omega
    · have := ih (fun s hs => h s (by omega)) (by omega)
      by_cases hp : p n = true
      · rw [if_pos hp, if_pos (h n (by omega) hp)]; omega
      · rw [if_neg hp]; split <;> omega

def has (S s : Nat) : Bool := S.testBit s
def card (S : Nat) : Nat := cu 32 (fun s => S.testBit s)

/-- whether one of the first n has a property -/
def ex : Nat → (Nat → Bool) → Bool
  | 0, _ => false
  | n + 1, p => ex n p || p n

theorem ex_iff (n : Nat) (p : Nat → Bool) : ex n p = true ↔ ∃ s, s < n ∧ p s = true := by
  induction n with
  | zero => simp [ex]
  | succ n ih =>
    simp only [ex, Bool.or_eq_true, ih]
    constructor
    · rintro (⟨s, hs, h⟩ | h)
      · exact ⟨s, by omega, h⟩
      · exact ⟨n, by omega, h⟩
    · rintro ⟨s, hs, h⟩
      by_cases e : s = n
      · subst e; exact .inr h
      · exact .inl ⟨s, by omega, h⟩

/-- what is behind a set by a relation -/
def img (rel : Nat → Nat → Bool) (S : Nat) : Nat := setOf 32 (fun s => ex 32 (fun s0 => S.testBit s0 && rel s0 s))

theorem img_bit (rel : Nat → Nat → Bool) (S s : Nat) : (img rel S).testBit s = true ↔ s < 32 ∧ ∃ s0, s0 < 32 ∧ S.testBit s0 = true ∧ rel s0 s = true := by
  unfold img
  rw [testBit_setOf]
  simp only [Bool.and_eq_true, decide_eq_true_eq, ex_iff]

theorem img_lt (rel : Nat → Nat → Bool) (S : Nat) : img rel S < 2 ^ 32 := setOf_lt _ _

theorem bit_ge {S s : Nat} (hS : S < 2 ^ 32) (hs : 32 ≤ s) : S.testBit s = false :=
  Nat.testBit_lt_two_pow (Nat.lt_of_lt_of_le hS (Nat.pow_le_pow_right (by decide) hs))

theorem set_ext {A B : Nat} (hA : A < 2 ^ 32) (hB : B < 2 ^ 32) (h : ∀ s, s < 32 → (A.testBit s = true ↔ B.testBit s = true)) : A = B := by
  apply Nat.eq_of_testBit_eq
  intro s
  by_cases hs : s < 32
  · rw [Bool.eq_iff_iff]; exact h s hs
  · rw [bit_ge hA (by omega), bit_ge hB (by omega)]

theorem or_lt {A B : Nat} (hA : A < 2 ^ 32) (hB : B < 2 ^ 32) : A ||| B < 2 ^ 32 := Nat.or_lt_two_pow hA hB

/-- what is reached by at most n steps -/
def rch (rel : Nat → Nat → Bool) (S : Nat) : Nat → Nat
  | 0 => S
  | n + 1 => rch rel S n ||| img rel (rch rel S n)

/-- what is reached by n steps and no fewer -/
def fr (rel : Nat → Nat → Bool) (S : Nat) : Nat → Nat
  | 0 => S
  | n + 1 => setOf 32 (fun s => (img rel (rch rel S n)).testBit s && !(rch rel S n).testBit s)

section
variable {rel : Nat → Nat → Bool} {S : Nat}

theorem rch_lt (hS : S < 2 ^ 32) (n : Nat) : rch rel S n < 2 ^ 32 := by
  induction n with
  | zero => exact hS
  | succ n ih => exact or_lt ih (img_lt _ _)

theorem fr_lt (hS : S < 2 ^ 32) (n : Nat) : fr rel S n < 2 ^ 32 := by
  cases n with
  | zero => exact hS
  | succ n => exact setOf_lt _ _

theorem rch_succ (n s : Nat) : (rch rel S (n + 1)).testBit s = ((rch rel S n).testBit s || (img rel (rch rel S n)).testBit s) := by
  show (rch rel S n ||| img rel (rch rel S n)).testBit s = _
  rw [Nat.testBit_or]

theorem fr_succ (n s : Nat) (hs : s < 32) : (fr rel S (n + 1)).testBit s = ((img rel (rch rel S n)).testBit s && !(rch rel S n).testBit s) := by
  show (setOf 32 _).testBit s = _
  rw [testBit_setOf]; simp [hs]

theorem rch_fr (n s : Nat) (hs : s < 32) : (rch rel S (n + 1)).testBit s = ((rch rel S n).testBit s || (fr rel S (n + 1)).testBit s) := by
  rw [rch_succ, fr_succ n s hs]
  cases (rch rel S n).testBit s <;> simp

theorem rch_mono {n m : Nat} (h : n ≤ m) (s : Nat) (hb : (rch rel S n).testBit s = true) : (rch rel S m).testBit s = true := by
  induction m with
  | zero => obtain rfl : n = 0 := by omega
            exact hb
  | succ m ih =>
    by_cases e : n = m + 1
    · subst e; exact hb
    · rw [rch_succ, ih (by omega)]; rfl

/-- the front moves on: what is new comes of what was new -/
theorem fr_front (_hS : S < 2 ^ 32) (n s : Nat) (hs : s < 32) : (fr rel S (n + 1)).testBit s = true ↔ (img rel (fr rel S n)).testBit s = true ∧ (rch rel S n).testBit s = false := by
  rw [fr_succ n s hs]
  simp only [Bool.and_eq_true, Bool.not_eq_true']
  refine ⟨fun ⟨h1, h2⟩ => ⟨?_, h2⟩, fun ⟨h1, h2⟩ => ⟨?_, h2⟩⟩
  · obtain ⟨_, s0, hs0, hb, hr⟩ := (img_bit _ _ _).1 h1
    refine (img_bit _ _ _).2 ⟨hs, s0, hs0, ?_, hr⟩
    cases n with
    | zero => exact hb
    | succ n =>
      rw [rch_fr n s0 hs0, Bool.or_eq_true] at hb
      rcases hb with hb | hb
      · exfalso
        have : (rch rel S (n + 1)).testBit s = true := by
          rw [rch_succ, Bool.or_eq_true]
          exact .inr ((img_bit _ _ _).2 ⟨hs, s0, hs0, hb, hr⟩)
        rw [this] at h2; cases h2
      · exact hb
  · obtain ⟨_, s0, hs0, hb, hr⟩ := (img_bit _ _ _).1 h1
    refine (img_bit _ _ _).2 ⟨hs, s0, hs0, ?_, hr⟩
    cases n with
    | zero => exact hb
    | succ n => rw [rch_fr n s0 hs0, hb]; simp

theorem fr_zero_next {n : Nat} (hS : S < 2 ^ 32) (h : fr rel S n = 0) : fr rel S (n + 1) = 0 := by
  refine set_ext (fr_lt hS _) (by decide) fun s hs => ?_
  rw [fr_front hS n s hs, h]
  simp only [Nat.zero_testBit, Bool.false_eq_true, iff_false, not_and]
  intro h1
  obtain ⟨_, s0, _, hb, _⟩ := (img_bit _ _ _).1 h1
  simp at hb

theorem fr_zero_all {n m : Nat} (hS : S < 2 ^ 32) (h : fr rel S n = 0) (hm : n ≤ m) : fr rel S m = 0 := by
  induction m with
  | zero => obtain rfl : n = 0 := by omega
            exact h
  | succ m ih =>
    by_cases e : n = m + 1
    · subst e; exact h
    · exact fr_zero_next hS (ih (by omega))

theorem nonzero_bit {A : Nat} (hA : A < 2 ^ 32) (h : A ≠ 0) : ∃ s, s < 32 ∧ A.testBit s = true := by
  apply Classical.byContradiction
  intro hn
  apply h
  refine set_ext hA (by decide) fun s hs => ?_
  simp only [Nat.zero_testBit, Bool.false_eq_true, iff_false]
  intro hb
  exact hn ⟨s, hs, hb⟩

/-- as long as there is something new, there are more and more states -/
theorem card_rch (hS : S < 2 ^ 32) (n : Nat) (h : fr rel S n ≠ 0) : n + 1 ≤ card (rch rel S n) := by
  induction n with
  | zero =>
    obtain ⟨s, hs, hb⟩ := nonzero_bit (fr_lt hS 0) h
    have := cu_lt 32 (fun _ => false) (fun s => (rch rel S 0).testBit s) (fun _ _ h => by cases h) s hs rfl hb
    unfold card
    omega
  | succ n ih =>
    have h0 : fr rel S n ≠ 0 := fun e => h (fr_zero_next hS e)
    have := ih h0
    obtain ⟨s, hs, hb⟩ := nonzero_bit (fr_lt hS _) h
    have h2 : (rch rel S n).testBit s = false := ((fr_front hS n s hs).1 hb).2
    have := cu_lt 32 (fun s => (rch rel S n).testBit s) (fun s => (rch rel S (n + 1)).testBit s) (fun s _ h => by rw [rch_succ, h]; rfl) s hs h2 (by rw [rch_fr n s hs, hb]; simp)
    unfold card at *
    omega

theorem fr_bound (hS : S < 2 ^ 32) (n : Nat) (h : fr rel S n ≠ 0) : n ≤ 31 := by
  have h1 := card_rch hS n h
  have h2 := cu_le 32 (fun s => (rch rel S n).testBit s)
  unfold card at h1
  omega

theorem rch_stop (hS : S < 2 ^ 32) {n : Nat} (h : fr rel S (n + 1) = 0) {m : Nat} (hm : n ≤ m) : rch rel S m = rch rel S n := by
  induction m with
  | zero => obtain rfl : n = 0 := by omega
            rfl
  | succ m ih =>
    by_cases e : n = m + 1
    · subst e; rfl
    · rw [← ih (by omega)]
      refine set_ext (rch_lt hS _) (rch_lt hS _) fun s hs => ?_
      rw [rch_fr m s hs, fr_zero_all hS h (show n + 1 ≤ m + 1 by omega)]
      simp

/-- the number of steps to a state, -1 if it is not reached -/
def dist (rel : Nat → Nat → Bool) (S s : Nat) : Int := match (List.range 32).find? (fun n => (fr rel S n).testBit s) with | some n => n | none => -1

theorem fr_rch {n m s : Nat} (hs : s < 32) (h : (fr rel S m).testBit s = true) (hn : m ≤ n) : (rch rel S n).testBit s = true := by
  refine rch_mono hn s ?_
  cases m with
  | zero => exact h
  | succ m => rw [rch_fr m s hs, h]; simp

theorem fr_once (hS : S < 2 ^ 32) {n m s : Nat} (hs : s < 32) (h1 : (fr rel S n).testBit s = true) (h2 : (fr rel S m).testBit s = true) : n = m := by
  rcases Nat.lt_trichotomy n m with h | h | h
  · exfalso
    cases m with
    | zero => omega
    | succ m =>
      have := ((fr_front hS m s hs).1 h2).2
      rw [fr_rch hs h1 (by omega)] at this
      cases this
  · exact h
  · exfalso
    cases n with
    | zero => omega
    | succ n =>
      have := ((fr_front hS n s hs).1 h1).2
      rw [fr_rch hs h2 (by omega)] at this
      cases this

theorem dist_yes (hS : S < 2 ^ 32) {n s : Nat} (hs : s < 32) (h : (fr rel S n).testBit s = true) : dist rel S s = n := by
  have hn : n ≤ 31 := fr_bound hS n (fun e => by rw [e] at h; simp at h)
  unfold dist
  cases hf : (List.range 32).find? (fun n => (fr rel S n).testBit s) with
  | none =>
    have := List.find?_eq_none.1 hf n (List.mem_range.2 (by omega))
    simp [h] at this
  | some m =>
    have h1 := List.find?_some hf
    have := fr_once hS hs h h1
    simp only
    omega

theorem dist_no {s : Nat} (h : ∀ n, n < 32 → (fr rel S n).testBit s = false) : dist rel S s = -1 := by
  unfold dist
  cases hf : (List.range 32).find? (fun n => (fr rel S n).testBit s) with
  | none => rfl
  | some m =>
    have h1 := List.find?_some hf
    rw [h m (List.mem_range.1 (List.mem_of_find?_eq_some hf))] at h1
    cases h1

theorem dist_cases (hS : S < 2 ^ 32) (s : Nat) (hs : s < 32) : (dist rel S s = -1 ∧ ∀ n, (fr rel S n).testBit s = false) ∨ ∃ n : Nat, n ≤ 31 ∧ dist rel S s = n ∧ (fr rel S n).testBit s = true := by
  by_cases h : ∃ n, (fr rel S n).testBit s = true
  · obtain ⟨n, hn⟩ := h
    refine .inr ⟨n, fr_bound hS n (fun e => by rw [e] at hn; simp at hn), dist_yes hS hs hn, hn⟩
  · refine .inl ⟨dist_no fun n _ => ?_, fun n => ?_⟩
    all_goals
      cases e : (fr rel S n).testBit s
      · rfl
      · exact absurd ⟨n, e⟩ h

theorem rch_dist (hS : S < 2 ^ 32) (n s : Nat) (hs : s < 32) : (rch rel S n).testBit s = true ↔ 0 ≤ dist rel S s ∧ dist rel S s ≤ n := by
  constructor
  · intro h
    induction n with
    | zero =>
      have := dist_yes (rel := rel) (n := 0) hS hs h
      omega
    | succ n ih =>
      rw [rch_fr n s hs, Bool.or_eq_true] at h
      rcases h with h | h
      · have := ih h; omega
      · have := dist_yes hS hs h; omega
  · rintro ⟨h0, h1⟩
    rcases dist_cases (rel := rel) hS s hs with ⟨h2, _⟩ | ⟨m, _, h2, h3⟩
    · omega
    · exact fr_rch hs h3 (by omega)
end

end Go.Proofs.YtphdojebdclonaaDoor.Sp

namespace Go.Proofs.YtphdojebdclonaaDoor
set_option linter.unusedSimpArgs false
set_option linter.unusedVariables false
open Go.RowKit

/-- The call left what was there as it was. -/
def Kept (w w' : World) : Prop := Below w.heap.size w w'

theorem Kept.refl (w : World) : Kept w w := Below.refl _ _
theorem Kept.trans {a b c : World} (h : Kept a b) (k : Kept b c) : Kept a c := Below.trans h (Below.mono k h.size)
theorem Kept.alloc {a w : World} (h : Kept a w) (o : Obj) : Kept a (w.alloc o) := Below.alloc h h.size o
theorem Kept.drew {a w : World} (h : Kept a w) : Kept a w.drew := Below.drew h
theorem Kept.drewN {a w : World} (h : Kept a w) (n : Nat) : Kept a (w.drewN n) := ⟨h.os, h.tape, h.output, h.size, h.block⟩
theorem Kept.size {a w : World} (h : Kept a w) : a.heap.size ≤ w.heap.size := Below.size h
theorem Kept.setCell {a w : World} (h : Kept a w) {p : Addr} (hp : a.heap.size ≤ p.block) (u : Value) : Kept a (w.setCell p u) := Below.setCell h hp u
theorem Kept.grown {a w w' : World} {row : Option Nat} (h : Kept a w) (hg : w.grownBy w' row) (hr : ∀ k, row = some k → a.heap.size ≤ k) : Kept a w' := Below.grown h hg h.size hr
theorem Kept.cell {a w : World} (h : Kept a w) {b o : Nat} (hb : b < a.heap.size) : w.cell? ⟨b, o, none⟩ = a.cell? ⟨b, o, none⟩ := Below.cell (p := ⟨b, o, none⟩) h hb
theorem Kept.frozen {a w : World} (h : Kept a w) {b o : Nat} (hb : b < a.heap.size) : w.frozen? ⟨b, o, none⟩ = a.frozen? ⟨b, o, none⟩ := Below.frozen (p := ⟨b, o, none⟩) h hb
/-- Kept since a box was laid: kept since before. -/
theorem Kept.unbox {a w : World} {o : Obj} (h : Kept (a.alloc o) w) : Kept a w := ((Kept.refl a).alloc o).trans h

theorem Kept.box {a w : World} {cs : Array Value} {T : TypeId} (h : Kept (a.alloc (.cells cs T)) w) (i : Nat) : w.cell? ⟨a.heap.size, i, none⟩ = cs[i]? := by
  rw [h.cell (by simp)]; exact World.cell?_alloc_new a cs T i

/-- a slice of integers: the address A, n elements l -/
def Ints (w : World) (A : Option Addr) (n : Nat) (l : List Int) : Prop :=
  l.length = n ∧ n ≤ maxLen ∧ (∀ x ∈ l, Sp.inI x) ∧
    (0 < n → ∃ b off, A = some ⟨b, off, none⟩ ∧ b < w.heap.size ∧ ∀ k, k < n → w.cell? ⟨b, off + k, none⟩ = some (.int .i64 (l.getD k default)))

theorem Ints.keep {w w' : World} {A : Option Addr} {n : Nat} {l : List Int} (h : Ints w A n l) (hk : Kept w w') : Ints w' A n l := by
  obtain ⟨h1, h2, h3, h4⟩ := h
  refine ⟨h1, h2, h3, fun hn => ?_⟩
  obtain ⟨b, off, e, hb, hc⟩ := h4 hn
  exact ⟨b, off, e, Nat.lt_of_lt_of_le hb hk.size, fun k hkn => by rw [hk.cell hb]; exact hc k hkn⟩

theorem Ints.len {w : World} {A : Option Addr} {n : Nat} {l : List Int} (h : Ints w A n l) : l.length = n := h.1
theorem Ints.le {w : World} {A : Option Addr} {n : Nat} {l : List Int} (h : Ints w A n l) : n ≤ 9223372036854775807 := h.2.1
theorem Ints.at {w : World} {A : Option Addr} {n : Nat} {l : List Int} (h : Ints w A n l) {k : Nat} (hk : k < n) :
    ∃ b off, A = some ⟨b, off, none⟩ ∧ b < w.heap.size ∧ w.cell? ⟨b, off + k, none⟩ = some (.int .i64 (l.getD k default)) ∧ Sp.inI (l.getD k default) := by
  obtain ⟨h1, h2, h3, h4⟩ := h
  obtain ⟨b, off, e, hb, hc⟩ := h4 (by omega)
  refine ⟨b, off, e, hb, hc k hk, h3 _ ?_⟩
  have hlt : k < l.length := by omega
  simp only [List.getD_eq_getElem?_getD, List.getElem?_eq_getElem hlt, Option.getD_some]
  exact List.getElem_mem _

/-- the four cells of a deed -/
def DeedCells (w : World) (b o : Nat) (d : Sp.Deed) : Prop :=
  ∃ A n c, w.cell? ⟨b, o, none⟩ = some (.slice A n c) ∧ Ints w A n d.need ∧ w.cell? ⟨b, o + 1, none⟩ = some (.int .i64 d.on) ∧
    w.cell? ⟨b, o + 2, none⟩ = some (.int .i64 d.off) ∧ w.cell? ⟨b, o + 3, none⟩ = some (.int .i64 d.flip) ∧ Sp.inI d.on ∧ Sp.inI d.off ∧ Sp.inI d.flip

theorem DeedCells.keep {w w' : World} {b o : Nat} {d : Sp.Deed} (h : DeedCells w b o d) (hk : Kept w w') (hb : b < w.heap.size) : DeedCells w' b o d := by
  obtain ⟨A, n, c, h1, h2, h3, h4, h5, h6⟩ := h
  exact ⟨A, n, c, by rw [hk.cell hb]; exact h1, h2.keep hk, by rw [hk.cell hb]; exact h3, by rw [hk.cell hb]; exact h4, by rw [hk.cell hb]; exact h5, h6⟩

def Deeds (w : World) (A : Option Addr) (n : Nat) (l : List Sp.Deed) : Prop :=
  l.length = n ∧ n ≤ maxLen ∧ (0 < n → ∃ b off, A = some ⟨b, off, none⟩ ∧ b < w.heap.size ∧ ∀ k, k < n → DeedCells w b (off + k * 4) (l.getD k default))

theorem Deeds.keep {w w' : World} {A : Option Addr} {n : Nat} {l : List Sp.Deed} (h : Deeds w A n l) (hk : Kept w w') : Deeds w' A n l := by
  obtain ⟨h1, h2, h4⟩ := h
  refine ⟨h1, h2, fun hn => ?_⟩
  obtain ⟨b, off, e, hb, hc⟩ := h4 hn
  exact ⟨b, off, e, Nat.lt_of_lt_of_le hb hk.size, fun k hkn => (hc k hkn).keep hk hb⟩

theorem Deeds.len {w : World} {A : Option Addr} {n : Nat} {l : List Sp.Deed} (h : Deeds w A n l) : l.length = n := h.1
theorem Deeds.le {w : World} {A : Option Addr} {n : Nat} {l : List Sp.Deed} (h : Deeds w A n l) : n ≤ 9223372036854775807 := h.2.1

theorem Deeds.at {w : World} {A : Option Addr} {n : Nat} {l : List Sp.Deed} (h : Deeds w A n l) {k : Nat} (hk : k < n) :
    ∃ b off, A = some ⟨b, off, none⟩ ∧ b < w.heap.size ∧ DeedCells w b (off + k * 4) (l.getD k default) := by
  obtain ⟨b, off, e, hb, hc⟩ := h.2.2 (by omega)
  exact ⟨b, off, e, hb, hc k hk⟩

/-- a deed, a task as values -/
def DeedV (w : World) (v : Value) (d : Sp.Deed) : Prop :=
  ∃ A n c, v = .agg #[.slice A n c, .int .i64 d.on, .int .i64 d.off, .int .i64 d.flip] ∧ Ints w A n d.need ∧ Sp.inI d.on ∧ Sp.inI d.off ∧ Sp.inI d.flip

theorem DeedV.keep {w w' : World} {v : Value} {d : Sp.Deed} (h : DeedV w v d) (hk : Kept w w') : DeedV w' v d := by
  obtain ⟨A, n, c, e, h1, h2⟩ := h
  exact ⟨A, n, c, e, h1.keep hk, h2⟩

def TaskV (w : World) (v : Value) (t : Sp.Task) : Prop :=
  ∃ A n c A' n' c', v = .agg #[.int .i64 t.start, .slice A n c, .slice A' n' c'] ∧ Ints w A n t.goal ∧ Deeds w A' n' t.deeds ∧ Sp.inI t.start

theorem TaskV.keep {w w' : World} {v : Value} {t : Sp.Task} (h : TaskV w v t) (hk : Kept w w') : TaskV w' v t := by
  obtain ⟨A, n, c, A', n', c', e, h1, h2, h3⟩ := h
  exact ⟨A, n, c, A', n', c', e, h1.keep hk, h2.keep hk, h3⟩

/-- what a call comes to: it returns v and leaves the world (Ret), or leaves what was there (RetK, RetS) -/
def Ret (v : Value) (w : World) (e : Ending) (w' : World) : Prop := e = .returned v ∧ w = w'
def RetK (v : Value) (w : World) (e : Ending) (w' : World) : Prop := e = .returned v ∧ Kept w w'
def RetS (Q : Value → World → Prop) (w : World) (e : Ending) (w' : World) : Prop := ∃ v, e = .returned v ∧ Q v w' ∧ Kept w w'

theorem Ret.to {v v' : Value} {w : World} {e : Ending} {w' : World} (h : Ret v w e w') (hv : v = v') : Ret v' w e w' := hv ▸ h
theorem RetK.to {v v' : Value} {w : World} {e : Ending} {w' : World} (h : RetK v w e w') (hv : v = v') : RetK v' w e w' := hv ▸ h
theorem Ret.k {v : Value} {w : World} {e : Ending} {w' : World} (h : Ret v w e w') : RetK v w e w' := ⟨h.1, by rw [h.2]; exact Kept.refl _⟩

theorem ret_int {k : IntKind} {a b : Int} (h : a = b) : Ending.returned (.int k a) = .returned (.int k b) := by rw [h]
theorem ret_bool {a b : Bool} (h : a = b) : Ending.returned (.bool a) = .returned (.bool b) := by rw [h]

end Go.Proofs.YtphdojebdclonaaDoor

namespace Go.Proofs.YtphdojebdclonaaDoor
set_option linter.unusedSimpArgs false
set_option linter.unusedVariables false
open Go.RowKit

theorem Kept.at_ {a w : World} (h : Kept a w) {b o : Nat} {x : Value} (hx : a.cell? ⟨b, o, none⟩ = some x) : w.cell? ⟨b, o, none⟩ = some x := by
  rw [h.cell (World.block_lt_of_cell? _ _ hx)]; exact hx
theorem Kept.fr {a w : World} (h : Kept a w) {b o : Nat} (hb : b < a.heap.size) (hx : a.frozen? ⟨b, o, none⟩ = false) : w.frozen? ⟨b, o, none⟩ = false := by
  rw [h.frozen hb]; exact hx

/-- the address lies in another block -/
def Off (g : Nat) (A : Option Addr) : Prop := ∀ a, A = some a → a.block ≠ g

theorem Ints.setCell {w : World} {A : Option Addr} {n : Nat} {l : List Int} (h : Ints w A n l) {p : Addr} (hA : Off p.block A) (u : Value) : Ints (w.setCell p u) A n l := by
  obtain ⟨h1, h2, h3, h4⟩ := h
  refine ⟨h1, h2, h3, fun hn => ?_⟩
  obtain ⟨b, off, e, hb, hc⟩ := h4 hn
  refine ⟨b, off, e, by simpa using hb, fun k hk => ?_⟩
  rw [World.cell?_setCell_other]
  · exact hc k hk
  · intro e2; exact hA _ e (by rw [e2])

/-- a block known whole -/
def Blk (w : World) (g : Nat) (t : TypeId) (cs : Array Value) : Prop := w.heap[g]? = some (.cells cs t (0, 0))

section
variable {w w' : World} {g : Nat} {t : TypeId} {cs : Array Value}
theorem Blk.lt (h : Blk w g t cs) : g < w.heap.size := by
  rcases Nat.lt_or_ge g w.heap.size with hlt | hge
  · exact hlt
  · unfold Blk at h; rw [Array.getElem?_eq_none hge] at h; cases h
theorem Blk.cell (h : Blk w g t cs) (i : Nat) : w.cell? ⟨g, i, none⟩ = cs[i]? := by
  unfold Blk at h; simp [World.cell?, h]
theorem Blk.frozen (h : Blk w g t cs) (i : Nat) : w.frozen? ⟨g, i, none⟩ = false := by
  unfold Blk at h
  simp [World.frozen?, h]
theorem Blk.new (w : World) (t : TypeId) (cs : Array Value) : Blk (w.alloc (.cells cs t)) w.heap.size t cs := by
  unfold Blk World.alloc; simp
theorem Blk.drew (h : Blk w g t cs) : Blk w.drew g t cs := h
theorem Blk.drewN (h : Blk w g t cs) (n : Nat) : Blk (w.drewN n) g t cs := h
theorem Blk.alloc (h : Blk w g t cs) (o : Obj) : Blk (w.alloc o) g t cs := (Below.heap_alloc w o g h.lt).trans h
theorem Blk.set_ (h : Blk w g t cs) (i : Nat) (u : Value) : Blk (w.setCell ⟨g, i, none⟩ u) g t (cs.setIfInBounds i u) := by
  unfold Blk at h ⊢
  simp [World.setCell, Array.getElem?_modify, h]
theorem Blk.far (h : Blk w g t cs) {p : Addr} (hp : g ≠ p.block) (u : Value) : Blk (w.setCell p u) g t cs := (Below.heap_setCell w p u g hp).trans h
theorem Blk.kept (h : Blk w g t cs) (hk : Kept w w') : Blk w' g t cs := (Below.block hk g h.lt).trans h
theorem Blk.grown {row : Option Nat} (h : Blk w g t cs) (hb : w.grownBy w' row) (hg : some g ≠ row) : Blk w' g t cs := (hb.block g h.lt hg).trans h
end

/-- a fact that rests on the blocks from B to C alone -/
def Within (B C : Nat) (w : World) (P : World → Prop) : Prop := ∀ w2 : World, C ≤ w2.heap.size → (∀ b, B ≤ b → b < C → w2.heap[b]? = w.heap[b]?) → P w2

theorem Within.here {B C : Nat} {w : World} {P : World → Prop} (h : Within B C w P) (hC : C ≤ w.heap.size) : P w := h w hC (fun _ _ _ => rfl)
theorem Within.keep {B C : Nat} {w w2 : World} {P : World → Prop} (h : Within B C w P) (_hC : C ≤ w2.heap.size) (he : ∀ b, B ≤ b → b < C → w2.heap[b]? = w.heap[b]?) : Within B C w2 P :=
  fun w3 h3 e3 => h w3 h3 (fun b h1 h2 => (e3 b h1 h2).trans (he b h1 h2))
theorem Within.kept {B C : Nat} {w w2 : World} {P : World → Prop} (h : Within B C w P) (hC : C ≤ w.heap.size) (hk : Kept w w2) : Within B C w2 P :=
  h.keep (Nat.le_trans hC hk.size) (fun b _ h2 => Below.block hk b (by omega))
theorem Within.setCell {B C : Nat} {w : World} {P : World → Prop} (h : Within B C w P) (hC : C ≤ w.heap.size) {p : Addr} (hp : p.block < B ∨ C ≤ p.block) (u : Value) : Within B C (w.setCell p u) P :=
  h.keep (by simpa using hC) (fun b h1 h2 => Below.heap_setCell w p u b (by omega))
theorem Within.more {B C B' C' : Nat} {w : World} {P : World → Prop} (h : Within B C w P) (hB : B' ≤ B) (hC : C ≤ C') : Within B' C' w P :=
  fun w2 h2 e2 => h w2 (by omega) (fun b h3 h4 => e2 b (by omega) (by omega))
theorem Within.imp {B C : Nat} {w : World} {P Q : World → Prop} (h : Within B C w P) (hq : ∀ w, P w → Q w) : Within B C w Q := fun w2 h2 e2 => hq _ (h w2 h2 e2)
theorem Within.and {B C : Nat} {w : World} {P Q : World → Prop} (h : Within B C w P) (k : Within B C w Q) : Within B C w (fun w => P w ∧ Q w) := fun w2 h2 e2 => ⟨h w2 h2 e2, k w2 h2 e2⟩

theorem Ints.same {w w' : World} {g n : Nat} {l : List Int} (h : Ints w (some ⟨g, 0, none⟩) n l) (hs : g < w.heap.size → w'.heap[g]? = w.heap[g]? ∧ g < w'.heap.size) : Ints w' (some ⟨g, 0, none⟩) n l := by
  obtain ⟨h1, h2, h3, h4⟩ := h
  refine ⟨h1, h2, h3, fun hn => ?_⟩
  obtain ⟨b, off, e, hb, hc⟩ := h4 hn
  simp only [Option.some.injEq, Addr.mk.injEq] at e
  obtain ⟨rfl, rfl, _⟩ := e
  obtain ⟨h5, h6⟩ := hs hb
  exact ⟨_, _, rfl, h6, fun k hk => by rw [World.cell?_of_block (a := ⟨g, 0 + k, none⟩) h5]; exact hc k hk⟩

theorem Ints.within {w : World} {g n : Nat} {l : List Int} (h : Ints w (some ⟨g, 0, none⟩) n l) {B : Nat} (hB : B ≤ g) : Within B w.heap.size w (fun w' => Ints w' (some ⟨g, 0, none⟩) n l) :=
  fun _ h2 e2 => h.same (fun hg => ⟨e2 g hB hg, by omega⟩)

theorem Blk.same {w w' : World} {g : Nat} {t : TypeId} {cs : Array Value} (h : Blk w g t cs) (he : w'.heap[g]? = w.heap[g]?) : Blk w' g t cs := he.trans h

/-- a row of integers in a block of its own, which may be written -/
def Own (w : World) (g n : Nat) (l : List Int) : Prop := g < w.heap.size ∧ (∀ i, w.frozen? ⟨g, i, none⟩ = false) ∧ Ints w (some ⟨g, 0, none⟩) n l
theorem Own.ints {w : World} {g n : Nat} {l : List Int} (h : Own w g n l) : Ints w (some ⟨g, 0, none⟩) n l := h.2.2
theorem Own.keep {w w' : World} {g n : Nat} {l : List Int} (h : Own w g n l) (hk : Kept w w') : Own w' g n l :=
  ⟨Nat.lt_of_lt_of_le h.1 hk.size, fun i => hk.fr h.1 (h.2.1 i), h.2.2.keep hk⟩
theorem Own.same {w w' : World} {g n : Nat} {l : List Int} (h : Own w g n l) (hs : g < w.heap.size → w'.heap[g]? = w.heap[g]? ∧ g < w'.heap.size) : Own w' g n l :=
  ⟨(hs h.1).2, fun i => by have := h.2.1 i; unfold World.frozen? at this ⊢; rw [(hs h.1).1]; exact this, h.2.2.same hs⟩
theorem Own.within {w : World} {g n : Nat} {l : List Int} (h : Own w g n l) {B : Nat} (hB : B ≤ g) : Within B w.heap.size w (fun w' => Own w' g n l) :=
  fun _ h2 e2 => h.same (fun hg => ⟨e2 g hB hg, by omega⟩)
theorem Own.setCell {w : World} {g n : Nat} {l : List Int} (h : Own w g n l) {p : Addr} (hA : Off p.block (some ⟨g, 0, none⟩)) (u : Value) : Own (w.setCell p u) g n l :=
  h.same (fun hg => ⟨Below.heap_setCell w p u g (fun e => hA _ rfl e), by simpa using hg⟩)
theorem Own.ofBlk {w : World} {g n : Nat} {t : TypeId} {cs : Array Value} {l : List Int} (h : Blk w g t cs) (hi : Ints w (some ⟨g, 0, none⟩) n l) : Own w g n l := ⟨h.lt, h.frozen, hi⟩

end Go.Proofs.YtphdojebdclonaaDoor
