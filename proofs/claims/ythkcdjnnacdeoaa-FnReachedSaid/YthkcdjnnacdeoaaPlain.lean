/- The plain model of tasks, codes and states: no program in sight. No condition. -/
namespace Go.Proofs.Ythkcdjnnacdeoaa.Sp

structure Deed where
  need : List Int
  on : Int
  off : Int
  flip : Int
  deriving Inhabited, DecidableEq

structure Task where
  start : Int
  goal : List Int
  deeds : List Deed
  deriving Inhabited, DecidableEq

def inI (x : Int) : Prop := -9223372036854775808 ≤ x ∧ x ≤ 9223372036854775807

theorem take_foldl {α β : Type} [Inhabited α] (l : List α) (f : β → α → β) (b : β) (k : Nat) (h : k < l.length) :
    (l.take (k + 1)).foldl f b = f ((l.take k).foldl f b) (l.getD k default) := by
  rw [List.take_succ_eq_append_getElem h, List.foldl_append]
  simp [List.getD, h]

theorem take_all {α : Type} (l : List α) (k : Nat) (h : l.length ≤ k) : l.take k = l := List.take_of_length_le h

/-! codes -/

def takes (s : Int) : Nat := if s = 7 then 1 else if s = 8 ∨ s = 9 then 2 else 0

def dstep (o : Option (Nat × Nat)) (s : Int) : Option (Nat × Nat) :=
  match o with
  | none => none
  | some p => if 0 ≤ s ∧ s ≤ 9 ∧ takes s ≤ p.1 then some (p.1 - takes s + 1, max p.2 (p.1 - takes s + 1)) else none

def depthOf (l : List Int) : Option (Nat × Nat) := l.foldl dstep (some (0, 0))

def codeDepth (l : List Int) : Int :=
  match depthOf l with
  | none => -1
  | some p => if 1 ≤ l.length ∧ l.length ≤ 40 ∧ p.1 = 1 then p.2 else -1

def codeOk (l : List Int) : Bool := codeDepth l != -1

def rstep (s : Nat) (st : List Bool) (c : Int) : List Bool :=
  if c = 7 then (!st.headD false) :: st.tail
  else if c = 8 then (st.tail.headD false && st.headD false) :: st.tail.tail
  else if c = 9 then (st.tail.headD false || st.headD false) :: st.tail.tail
  else if c = 5 then true :: st
  else if c = 6 then false :: st
  else s.testBit c.toNat :: st

def stackOf (l : List Int) (s : Nat) : List Bool := l.foldl (rstep s) []

def run (l : List Int) (s : Nat) : Bool := (stackOf l s).headD false

theorem dstep_none (l : List Int) : l.foldl dstep none = none := by
  induction l with
  | nil => rfl
  | cons a l ih => simpa [dstep] using ih

theorem depth_take_none (l : List Int) (k : Nat) (h : depthOf (l.take k) = none) : depthOf l = none := by
  have e : l = l.take k ++ l.drop k := (List.take_append_drop k l).symm
  rw [e]
  unfold depthOf at *
  rw [List.foldl_append, h, dstep_none]

theorem depth_snoc (l : List Int) (k : Nat) (h : k < l.length) : depthOf (l.take (k + 1)) = dstep (depthOf (l.take k)) (l.getD k default) :=
  take_foldl l dstep _ k h

theorem depth_le (l : List Int) (k : Nat) : ∀ p, depthOf (l.take k) = some p → p.1 ≤ k ∧ p.2 ≤ k := by
  induction k with
  | zero => intro p hp; simp [depthOf] at hp; subst hp; simp
  | succ k ih =>
    intro p hp
    by_cases hk : k < l.length
    · rw [depth_snoc l k hk] at hp
      cases hq : depthOf (l.take k) with
      | none => rw [hq] at hp; simp [dstep] at hp
      | some q =>
        rw [hq] at hp
        obtain ⟨h1, h2⟩ := ih q hq
        simp only [dstep] at hp
        split at hp
        · rename_i hc
          simp only [Option.some.injEq] at hp
          subst hp
          have := hc.2.2
          simp only
          omega
        · simp at hp
    · have e : l.take (k + 1) = l.take k := by rw [List.take_of_length_le (by omega), List.take_of_length_le (by omega)]
      rw [e] at hp
      have := ih p hp
      omega

theorem depth_most (l : List Int) : ∀ p, depthOf l = some p → l ≠ [] → 1 ≤ p.2 := by
  intro p hp hne
  have hl : 0 < l.length := List.length_pos_iff.2 hne
  have e : l = l.take (l.length - 1 + 1) := by rw [Nat.sub_add_cancel hl, List.take_length]
  rw [e, depth_snoc l _ (by omega)] at hp
  cases hq : depthOf (l.take (l.length - 1)) with
  | none => rw [hq] at hp; simp [dstep] at hp
  | some q =>
    rw [hq] at hp
    simp only [dstep] at hp
    split at hp
    · simp only [Option.some.injEq] at hp
      subst hp
      simp only
      omega
    · simp at hp

theorem codeDepth_eq (l : List Int) : codeDepth l = -1 ∨ (1 ≤ codeDepth l ∧ ∃ p, depthOf l = some p ∧ p.1 = 1 ∧ 1 ≤ l.length ∧ l.length ≤ 40) := by
  unfold codeDepth
  split
  · left; rfl
  · rename_i p hp
    split
    · rename_i h
      right
      have := depth_most l p hp (by intro e; subst e; simp at h)
      exact ⟨by omega, p, hp, h.2.2, h.1, h.2.1⟩
    · left; rfl

theorem codeOk_iff (l : List Int) : codeOk l = true ↔ ∃ p, depthOf l = some p ∧ p.1 = 1 ∧ 1 ≤ l.length ∧ l.length ≤ 40 := by
  unfold codeOk
  constructor
  · intro h
    rcases codeDepth_eq l with h1 | h1
    · rw [h1] at h; simp at h
    · exact h1.2
  · rintro ⟨p, hp, h1, h2, h3⟩
    have := depth_most l p hp (by intro e; subst e; simp at h2)
    unfold codeDepth
    rw [hp]
    simp only [h1, h2, h3, and_self, if_true, bne_iff_ne, ne_eq]
    omega

theorem codeOk_pos (l : List Int) : codeOk l = decide (0 < codeDepth l) := by
  unfold codeOk
  rcases codeDepth_eq l with h | h
  · rw [h]; rfl
  · have h1 := h.1
    rw [Bool.eq_iff_iff]; simp only [bne_iff_ne, ne_eq, decide_eq_true_eq]; omega

/-- The first steps of a valid code: its depth stands, and the next step finds what it takes. -/
theorem codeOk_step (l : List Int) (h : codeOk l = true) (k : Nat) (hk : k < l.length) :
    ∃ p, depthOf (l.take k) = some p ∧ 0 ≤ l.getD k default ∧ l.getD k default ≤ 9 ∧ takes (l.getD k default) ≤ p.1 ∧ p.1 ≤ k ∧ k < 40 := by
  obtain ⟨q, hq, _, _, h40⟩ := (codeOk_iff l).1 h
  cases hp : depthOf (l.take (k + 1)) with
  | none => rw [depth_take_none l _ hp] at hq; simp at hq
  | some r =>
    rw [depth_snoc l k hk] at hp
    cases hp' : depthOf (l.take k) with
    | none => rw [hp'] at hp; simp [dstep] at hp
    | some p =>
      rw [hp'] at hp
      simp only [dstep] at hp
      split at hp
      · rename_i hc
        exact ⟨p, rfl, hc.1, hc.2.1, hc.2.2, (depth_le l k p hp').1, by omega⟩
      · simp at hp

theorem stack_snoc (l : List Int) (s k : Nat) (h : k < l.length) : stackOf (l.take (k + 1)) s = rstep s (stackOf (l.take k) s) (l.getD k default) :=
  take_foldl l (rstep s) _ k h

theorem stack_len (l : List Int) (s : Nat) (k : Nat) : ∀ p, depthOf (l.take k) = some p → (stackOf (l.take k) s).length = p.1 := by
  induction k with
  | zero => intro p hp; simp [depthOf] at hp; subst hp; simp [stackOf]
  | succ k ih =>
    intro p hp
    by_cases hk : k < l.length
    · rw [depth_snoc l k hk] at hp
      rw [stack_snoc l s k hk]
      cases hq : depthOf (l.take k) with
      | none => rw [hq] at hp; simp [dstep] at hp
      | some q =>
        rw [hq] at hp
        have hl := ih q hq
        simp only [dstep] at hp
        split at hp
        · rename_i hc
          simp only [Option.some.injEq] at hp
          subst hp
          have h3 := hc.2.2
          unfold takes at h3 ⊢
          unfold rstep
          simp only
          by_cases e7 : l.getD k default = 7
          · simp only [e7, if_true] at h3 ⊢
            simp only [List.length_cons, List.length_tail, hl]
          · by_cases e8 : l.getD k default = 8
            · simp only [e8, if_true] at h3 ⊢
              simp at h3 ⊢; omega
            · by_cases e9 : l.getD k default = 9
              · simp only [e9] at h3 ⊢
                simp at h3 ⊢; omega
              · simp only [e7, e8, e9, if_false, or_self] at h3 ⊢
                (repeat' split) <;> simp [hl]
        · simp at hp
    · have e : l.take (k + 1) = l.take k := by rw [List.take_of_length_le (by omega), List.take_of_length_le (by omega)]
      rw [e] at hp ⊢
      exact ih p hp

theorem stack_last (l : List Int) (s : Nat) (h : codeOk l = true) : (stackOf l s).length = 1 := by
  obtain ⟨q, hq, h1, _, _⟩ := (codeOk_iff l).1 h
  have := stack_len l s l.length q (by rw [List.take_length]; exact hq)
  rw [List.take_length] at this
  omega

/-! sets of states as numbers -/

def setOf : Nat → (Nat → Bool) → Nat
  | 0, _ => 0
  | n + 1, f => setOf n f + if f n then 2 ^ n else 0

theorem setOf_lt (n : Nat) (f : Nat → Bool) : setOf n f < 2 ^ n := by
  induction n with
  | zero => simp [setOf]
  | succ n ih =>
    simp only [setOf]
    rw [Nat.pow_succ]
    split <;> omega

theorem testBit_setOf (n : Nat) (f : Nat → Bool) (k : Nat) : (setOf n f).testBit k = (decide (k < n) && f k) := by
  induction n with
  | zero => simp [setOf]
  | succ n ih =>
    simp only [setOf]
    have hlt := setOf_lt n f
    have e : setOf n f + (if f n then 2 ^ n else 0) = 2 ^ n * (if f n then 1 else 0) + setOf n f := by
      split <;> omega
    rw [e, Nat.testBit_two_pow_mul_add _ hlt]
    by_cases hk : k < n
    · rw [if_pos hk, ih]; simp [hk, Nat.lt_succ_of_lt hk]
    · rw [if_neg hk]
      by_cases hkn : k = n
      · subst hkn; split <;> simp [*]
      · have h0 : 0 < k - n := by omega
        have : ¬ k < n + 1 := by omega
        simp only [this, decide_false, Bool.false_and]
        split
        · rw [Bool.eq_false_iff, ne_eq, Nat.testBit_one_eq_true_iff_self_eq_zero]; omega
        · simp

theorem setOf_or (n : Nat) (f : Nat → Bool) (h : f n = true) : setOf n f ||| 2 ^ n = setOf (n + 1) f := by
  apply Nat.eq_of_testBit_eq
  intro k
  rw [Nat.testBit_or, testBit_setOf, testBit_setOf, Nat.testBit_two_pow]
  by_cases hk : k < n
  · simp [hk, Nat.lt_succ_of_lt hk]; intro e; omega
  · by_cases e : n = k
    · subst e; simp [h]
    · have : ¬ k < n + 1 := by omega
      simp [hk, e, this]

theorem setOf_congr (n : Nat) (f g : Nat → Bool) (h : ∀ k, k < n → f k = g k) : setOf n f = setOf n g := by
  induction n with
  | zero => rfl
  | succ n ih =>
    simp only [setOf]
    rw [ih (fun k hk => h k (by omega)), h n (by omega)]

def truth (l : List Int) : Nat := setOf 32 (run l)

/-! tasks -/

def stOk (s : Int) : Bool := decide (0 ≤ s ∧ s ≤ 31)

def deedOk (d : Deed) : Bool :=
  codeOk d.need && stOk d.on && stOk d.off && stOk d.flip && (d.on.toNat &&& d.off.toNat == 0) && (d.on.toNat &&& d.flip.toNat == 0) && (d.off.toNat &&& d.flip.toNat == 0)

def taskOk (t : Task) : Bool := stOk t.start && codeOk t.goal && decide (t.deeds.length ≤ 6) && t.deeds.all deedOk

def behind (d : Deed) (s : Nat) : Nat := (((s ||| d.on.toNat) &&& (31 ^^^ d.off.toNat)) ^^^ d.flip.toNat)

end Go.Proofs.Ythkcdjnnacdeoaa.Sp
