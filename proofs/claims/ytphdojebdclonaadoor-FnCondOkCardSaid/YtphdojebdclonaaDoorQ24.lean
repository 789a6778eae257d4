/- Joined texts. No condition. -/
import Derived.Test.YtphdojebdclonaaDoorQ21
/- Plain: a plan made short. No program in sight. No condition. -/
namespace Go.Proofs.YtphdojebdclonaaDoor
set_option linter.unusedSimpArgs false
set_option linter.unusedVariables false
open Go.RowKit

/-- the state behind the first deeds -/
def Sp.stAt (t : Sp.Task) (l : List Int) (i : Nat) : Int := Sp.goOn t t.start.toNat (l.take i)
/-- the last place up to n, behind a, with the state of a -/
def Sp.lastEq (t : Sp.Task) (l : List Int) (a : Nat) : Nat → Option Nat
  | 0 => none
  | n + 1 => if a < n + 1 ∧ Sp.stAt t l (n + 1) = Sp.stAt t l a then some (n + 1) else Sp.lastEq t l a n
/-- the deeds from one place to another are left out -/
def Sp.cutOut (l : List Int) (a b : Nat) : List Int := l.take a ++ l.drop b
def Sp.shortAt (t : Sp.Task) (l : List Int) (a : Nat) : List Int := match Sp.lastEq t l a l.length with
  | some b => Sp.cutOut l a b
  | none => l
def Sp.shortTill (t : Sp.Task) (l : List Int) : Nat → List Int
  | 0 => l
  | a + 1 => Sp.shortAt t (Sp.shortTill t l a) a
def Sp.planShort (t : Sp.Task) (l : List Int) : List Int := if 0 ≤ Sp.planRun t t.start l then Sp.shortTill t l 41 else []

theorem lastEq_some {t : Sp.Task} {l : List Int} {a : Nat} (n : Nat) : ∀ b, Sp.lastEq t l a n = some b → a < b ∧ b ≤ n ∧ Sp.stAt t l b = Sp.stAt t l a ∧ ∀ c, b < c → c ≤ n → Sp.stAt t l c ≠ Sp.stAt t l a := by
  induction n with
  | zero => intro b h; cases h
  | succ n ih =>
    intro b h
    unfold Sp.lastEq at h
    by_cases hc : a < n + 1 ∧ Sp.stAt t l (n + 1) = Sp.stAt t l a
    · rw [if_pos hc] at h
      injection h with h
      subst h
      exact ⟨hc.1, Nat.le_refl _, hc.2, fun c h1 h2 => by omega⟩
    · rw [if_neg hc] at h
      obtain ⟨h1, h2, h3, h4⟩ := ih b h
      refine ⟨h1, by omega, h3, fun c h5 h6 => ?_⟩
      by_cases e : c = n + 1
      · subst e; exact fun he => hc ⟨by omega, he⟩
      · exact h4 c h5 (by omega)
theorem lastEq_none {t : Sp.Task} {l : List Int} {a : Nat} (n : Nat) : Sp.lastEq t l a n = none → ∀ c, a < c → c ≤ n → Sp.stAt t l c ≠ Sp.stAt t l a := by
  induction n with
  | zero => intro _ c h1 h2; omega
  | succ n ih =>
    intro h c h1 h2
    unfold Sp.lastEq at h
    by_cases hc : a < n + 1 ∧ Sp.stAt t l (n + 1) = Sp.stAt t l a
    · rw [if_pos hc] at h; cases h
    · rw [if_neg hc] at h
      by_cases e : c = n + 1
      · subst e; exact fun he => hc ⟨h1, he⟩
      · exact ih h c h1 (by omega)
theorem lastEq_is {t : Sp.Task} {l : List Int} {a b n : Nat} (h1 : a < b) (h2 : b ≤ n) (h3 : Sp.stAt t l b = Sp.stAt t l a) (h4 : ∀ c, b < c → c ≤ n → Sp.stAt t l c ≠ Sp.stAt t l a) : Sp.lastEq t l a n = some b := by
  cases e : Sp.lastEq t l a n with
  | none => exact absurd h3 (lastEq_none n e b h1 h2)
  | some c =>
    obtain ⟨g1, g2, g3, g4⟩ := lastEq_some n c e
    rcases Nat.lt_trichotomy b c with h | h | h
    · exact absurd g3 (h4 c h g2)
    · rw [h]
    · exact absurd h3 (g4 b h h2)
theorem lastEq_not {t : Sp.Task} {l : List Int} {a n : Nat} (h : ∀ c, a < c → c ≤ n → Sp.stAt t l c ≠ Sp.stAt t l a) : Sp.lastEq t l a n = none := by
  cases e : Sp.lastEq t l a n with
  | none => rfl
  | some b =>
    obtain ⟨g1, g2, g3, _⟩ := lastEq_some n b e
    exact absurd g3 (h b g1 g2)
theorem cut_len {l : List Int} {a b : Nat} (h1 : a < b) (h2 : b ≤ l.length) : (Sp.cutOut l a b).length = l.length - (b - a) := by
  unfold Sp.cutOut
  rw [List.length_append, List.length_take, List.length_drop]; omega
theorem cut_before {t : Sp.Task} {l : List Int} {a b i : Nat} (h1 : a < b) (h2 : b ≤ l.length) (hi : i ≤ a) : Sp.stAt t (Sp.cutOut l a b) i = Sp.stAt t l i := by
  unfold Sp.stAt Sp.cutOut
  rw [List.take_append_of_le_length (by rw [List.length_take]; omega), List.take_take, Nat.min_eq_left hi]
theorem cut_behind {t : Sp.Task} {l : List Int} {a b i : Nat} (h1 : a < b) (h2 : b ≤ l.length) (he : Sp.stAt t l b = Sp.stAt t l a) (hi : a ≤ i) : Sp.stAt t (Sp.cutOut l a b) i = Sp.stAt t l (i + (b - a)) := by
  unfold Sp.stAt at *
  unfold Sp.cutOut
  have e1 : (l.take a ++ l.drop b).take i = l.take a ++ (l.drop b).take (i - a) := by
    rw [List.take_append, List.take_of_length_le (by rw [List.length_take]; omega), List.length_take, Nat.min_eq_left (by omega)]
  have e2 : l.take (i + (b - a)) = l.take b ++ (l.drop b).take (i - a) := by
    rw [show i + (b - a) = b + (i - a) by omega, List.take_add]
  rw [e1, e2, goOn_append, goOn_append, he]
/-- no state before the place a comes twice -/
def Sp.Once (t : Sp.Task) (l : List Int) (a : Nat) : Prop := ∀ i j, i < a → i < j → j ≤ l.length → Sp.stAt t l i ≠ Sp.stAt t l j
theorem once_short {t : Sp.Task} {l : List Int} {a : Nat} (h : Sp.Once t l a) : Sp.Once t (Sp.shortAt t l a) (a + 1) := by
  unfold Sp.shortAt
  cases e : Sp.lastEq t l a l.length with
  | none =>
    intro i j h1 h2 h3
    by_cases hi : i = a
    · subst hi; exact fun he => lastEq_none _ e j h2 h3 he.symm
    · exact h i j (by omega) h2 h3
  | some b =>
    obtain ⟨g1, g2, g3, g4⟩ := lastEq_some _ b e
    intro i j h1 h2 h3
    have h3' : j ≤ l.length - (b - a) := by have := cut_len g1 g2; simp only [] at h3; omega
    show Sp.stAt t (Sp.cutOut l a b) i ≠ Sp.stAt t (Sp.cutOut l a b) j
    rw [cut_before g1 g2 (by omega)]
    by_cases hj : j ≤ a
    · rw [cut_before g1 g2 hj]; exact h i j (by omega) h2 (by omega)
    · rw [cut_behind g1 g2 g3 (by omega)]
      by_cases hi : i = a
      · subst hi; exact fun he => g4 (j + (b - i)) (by omega) (by omega) he.symm
      · exact h i _ (by omega) (by omega) (by omega)
theorem once_till (t : Sp.Task) (l : List Int) (a : Nat) : Sp.Once t (Sp.shortTill t l a) a := by
  induction a with
  | zero => intro i j h; omega
  | succ a ih => exact once_short ih
theorem short_len (t : Sp.Task) (l : List Int) (a : Nat) : (Sp.shortAt t l a).length ≤ l.length := by
  unfold Sp.shortAt
  cases e : Sp.lastEq t l a l.length with
  | none => exact Nat.le_refl _
  | some b =>
    obtain ⟨g1, g2, _⟩ := lastEq_some _ b e
    show (Sp.cutOut l a b).length ≤ _
    rw [cut_len g1 g2]; omega
theorem till_len (t : Sp.Task) (l : List Int) (a : Nat) : (Sp.shortTill t l a).length ≤ l.length := by
  induction a with
  | zero => exact Nat.le_refl _
  | succ a ih => exact Nat.le_trans (short_len t _ a) ih
/-- the end stays -/
theorem short_end (t : Sp.Task) (l : List Int) (a : Nat) : Sp.stAt t (Sp.shortAt t l a) (Sp.shortAt t l a).length = Sp.stAt t l l.length := by
  unfold Sp.shortAt
  cases e : Sp.lastEq t l a l.length with
  | none => rfl
  | some b =>
    obtain ⟨g1, g2, g3, _⟩ := lastEq_some _ b e
    show Sp.stAt t (Sp.cutOut l a b) (Sp.cutOut l a b).length = _
    rw [cut_len g1 g2, cut_behind g1 g2 g3 (by omega)]
    congr 1; omega
theorem till_end (t : Sp.Task) (l : List Int) (a : Nat) : Sp.stAt t (Sp.shortTill t l a) (Sp.shortTill t l a).length = Sp.stAt t l l.length := by
  induction a with
  | zero => rfl
  | succ a ih => exact (short_end t _ a).trans ih
theorem short_none {t : Sp.Task} {l : List Int} {a : Nat} (h : Sp.Once t l (a + 1)) : Sp.shortAt t l a = l := by
  unfold Sp.shortAt
  rw [lastEq_not (fun c h1 h2 he => h a c (by omega) h1 h2 he.symm)]
/-- where no state up to a place comes twice, nothing is left out up to there -/
theorem till_same {t : Sp.Task} {l : List Int} {m n : Nat} (hmn : m ≤ n) (h : Sp.Once t (Sp.shortTill t l m) n) : Sp.shortTill t l n = Sp.shortTill t l m := by
  induction n with
  | zero => obtain rfl : m = 0 := by omega
            rfl
  | succ n ih =>
    by_cases e : m = n + 1
    · subst e; rfl
    · have h1 := ih (by omega) (fun i j h1 h2 h3 => h i j (by omega) h2 h3)
      show Sp.shortAt t (Sp.shortTill t l n) n = _
      rw [h1]
      exact short_none h
theorem once_all {t : Sp.Task} {l : List Int} {n : Nat} (hn : l.length ≤ n) (h : Sp.Once t l n) (m : Nat) : Sp.Once t l m := fun i j h1 h2 h3 => h i j (by omega) h2 h3
theorem short_over {t : Sp.Task} {l : List Int} {a : Nat} (h : l.length ≤ a) : Sp.shortAt t l a = l := by
  unfold Sp.shortAt
  rw [lastEq_not (fun c h1 h2 => by omega)]
theorem till_over {t : Sp.Task} {l : List Int} {m n : Nat} (hmn : m ≤ n) (h : (Sp.shortTill t l m).length ≤ m) : Sp.shortTill t l n = Sp.shortTill t l m := by
  induction n with
  | zero => obtain rfl : m = 0 := by omega
            rfl
  | succ n ih =>
    by_cases e : m = n + 1
    · subst e; rfl
    · have h1 := ih (by omega)
      show Sp.shortAt t (Sp.shortTill t l n) n = _
      rw [h1, short_over (by omega)]
/-- what is in the shortened plan is in the plan -/
theorem short_mem {t : Sp.Task} {l : List Int} {a : Nat} : ∀ x ∈ Sp.shortAt t l a, x ∈ l := by
  intro x hx
  unfold Sp.shortAt at hx
  cases e : Sp.lastEq t l a l.length with
  | none => rw [e] at hx; exact hx
  | some b =>
    rw [e] at hx
    have hx2 : x ∈ l.take a ++ l.drop b := hx
    rw [List.mem_append] at hx2
    rcases hx2 with h | h
    · exact List.mem_of_mem_take h
    · exact List.mem_of_mem_drop h
theorem till_mem {t : Sp.Task} {l : List Int} {a : Nat} : ∀ x ∈ Sp.shortTill t l a, x ∈ l := by
  induction a with
  | zero => exact fun x hx => hx
  | succ a ih => exact fun x hx => ih x (short_mem x hx)

end Go.Proofs.YtphdojebdclonaaDoor
