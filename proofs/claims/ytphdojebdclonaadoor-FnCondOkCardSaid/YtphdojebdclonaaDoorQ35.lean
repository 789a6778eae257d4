/- Joined texts. No condition. -/
import Derived.Test.YtphdojebdclonaaDoorQ22
/- Conditions made simpler: plain. No program in sight. No condition. -/
namespace Go.Proofs.YtphdojebdclonaaDoor
set_option linter.unusedSimpArgs false
set_option linter.unusedVariables false
open Go.RowKit

/-- a simple condition turned round -/
def Sp.Cond.notS : Sp.Cond → Sp.Cond
  | .one s => if 5 ≤ s then .one (11 - s) else .neg (.one s)
  | .neg c => c
  | .two s l h => .neg (.two s l h)
/-- the step that decides what is joined, and the one that leaves it -/
def Sp.strong (s : Int) : Int := if s = 9 then 5 else 6
def Sp.weak (s : Int) : Int := if s = 9 then 6 else 5
def Sp.Cond.joinS (s : Int) (l h : Sp.Cond) : Sp.Cond :=
  if l.last = Sp.strong s ∨ h.last = Sp.strong s then .one (Sp.strong s)
  else if l.last = Sp.weak s then h
  else if h.last = Sp.weak s then l
  else if l.steps = h.steps then l
  else .two s l h
def Sp.Cond.simple : Sp.Cond → Sp.Cond
  | .one s => .one s
  | .neg c => c.simple.notS
  | .two s l h => Sp.Cond.joinS s l.simple h.simple

theorem last_five {c : Sp.Cond} (h : c.ok) (e : c.last = 5) : c = .one 5 := by
  cases c with
  | one s => simp only [Sp.Cond.last] at e; rw [e]
  | neg c => simp only [Sp.Cond.last] at e; omega
  | two s l r => simp only [Sp.Cond.last] at e; rcases h.1 with h | h <;> omega
theorem last_six {c : Sp.Cond} (h : c.ok) (e : c.last = 6) : c = .one 6 := by
  cases c with
  | one s => simp only [Sp.Cond.last] at e; rw [e]
  | neg c => simp only [Sp.Cond.last] at e; omega
  | two s l r => simp only [Sp.Cond.last] at e; rcases h.1 with h | h <;> omega
theorem notS_facts {c : Sp.Cond} (h : c.ok) : c.notS.ok ∧ (∀ n, c.notS.eval n = !c.eval n) ∧ c.notS.steps.length ≤ c.steps.length + 1 := by
  cases c with
  | one s =>
    obtain ⟨h0, h6⟩ := h
    by_cases h5 : 5 ≤ s
    · have e : Sp.Cond.notS (.one s) = .one (11 - s) := by rw [Sp.Cond.notS, if_pos h5]
      rw [e]
      refine ⟨⟨by omega, by omega⟩, fun n => ?_, by simp [Sp.Cond.steps]⟩
      rcases (by omega : s = 5 ∨ s = 6) with rfl | rfl <;> simp [Sp.Cond.eval]
    · have e : Sp.Cond.notS (.one s) = .neg (.one s) := by rw [Sp.Cond.notS, if_neg h5]
      rw [e]
      exact ⟨⟨h0, h6⟩, fun n => rfl, by simp [Sp.Cond.steps]⟩
  | neg c => exact ⟨h, fun n => by simp [Sp.Cond.notS, Sp.Cond.eval], by simp [Sp.Cond.notS, Sp.Cond.steps]; omega⟩
  | two s l r => exact ⟨h, fun n => rfl, by simp [Sp.Cond.notS, Sp.Cond.steps]; omega⟩
theorem joinS_facts {s : Int} {l h : Sp.Cond} (hs : s = 8 ∨ s = 9) (hl : l.ok) (hh : h.ok) :
    (Sp.Cond.joinS s l h).ok ∧ (∀ n, (Sp.Cond.joinS s l h).eval n = (Sp.Cond.two s l h).eval n) ∧ (Sp.Cond.joinS s l h).steps.length ≤ (Sp.Cond.two s l h).steps.length := by
  have hlp := steps_pos l
  have hhp := steps_pos h
  have hl2 : (Sp.Cond.two s l h).steps.length = l.steps.length + h.steps.length + 1 := by simp [Sp.Cond.steps]; omega
  rw [hl2]
  unfold Sp.Cond.joinS
  split
  · rename_i hc
    refine ⟨?_, fun n => ?_, by simp only [Sp.Cond.steps, List.length_cons, List.length_nil]; omega⟩
    · unfold Sp.strong; split <;> exact ⟨by omega, by omega⟩
    · rcases hs with rfl | rfl
      · rw [show Sp.strong 8 = 6 from rfl] at hc ⊢
        rcases hc with hc | hc
        · rw [last_six hl hc]; simp [Sp.Cond.eval]
        · rw [last_six hh hc]; simp [Sp.Cond.eval]
      · rw [show Sp.strong 9 = 5 from rfl] at hc ⊢
        rcases hc with hc | hc
        · rw [last_five hl hc]; simp [Sp.Cond.eval]
        · rw [last_five hh hc]; simp [Sp.Cond.eval]
  · split
    · rename_i hc
      refine ⟨hh, fun n => ?_, by omega⟩
      rcases hs with rfl | rfl
      · rw [show Sp.weak 8 = 5 from rfl] at hc
        rw [last_five hl hc]; simp [Sp.Cond.eval]
      · rw [show Sp.weak 9 = 6 from rfl] at hc
        rw [last_six hl hc]; simp [Sp.Cond.eval]
    · split
      · rename_i hc
        refine ⟨hl, fun n => ?_, by omega⟩
        rcases hs with rfl | rfl
        · rw [show Sp.weak 8 = 5 from rfl] at hc
          rw [last_five hh hc]; simp [Sp.Cond.eval]
        · rw [show Sp.weak 9 = 6 from rfl] at hc
          rw [last_six hh hc]; simp [Sp.Cond.eval]
      · split
        · rename_i hc
          have he : l = h := by rw [← tree_steps hl, ← tree_steps hh, hc]
          subst he
          refine ⟨hl, fun n => ?_, by omega⟩
          rcases hs with rfl | rfl <;> simp [Sp.Cond.eval]
        · exact ⟨⟨hs, hl, hh⟩, fun n => rfl, by simp [Sp.Cond.steps]; omega⟩
theorem simple_facts (c : Sp.Cond) : c.ok → c.simple.ok ∧ (∀ n, c.simple.eval n = c.eval n) ∧ c.simple.steps.length ≤ c.steps.length := by
  induction c with
  | one s => intro h; exact ⟨h, fun n => rfl, Nat.le_refl _⟩
  | neg c ih =>
    intro h
    obtain ⟨h1, h2, h3⟩ := ih h
    obtain ⟨k1, k2, k3⟩ := notS_facts h1
    exact ⟨k1, fun n => by rw [Sp.Cond.simple, k2, h2]; rfl, by simp only [Sp.Cond.simple, Sp.Cond.steps, List.length_append, List.length_cons, List.length_nil]; omega⟩
  | two s l r ihl ihr =>
    intro h
    obtain ⟨hs, hl, hr⟩ := h
    obtain ⟨a1, a2, a3⟩ := ihl hl
    obtain ⟨b1, b2, b3⟩ := ihr hr
    obtain ⟨k1, k2, k3⟩ := joinS_facts hs a1 b1
    refine ⟨k1, fun n => ?_, ?_⟩
    · rw [Sp.Cond.simple, k2]; simp only [Sp.Cond.eval, a2, b2]
    · simp only [Sp.Cond.simple]
      simp only [Sp.Cond.steps, List.length_append, List.length_cons, List.length_nil] at k3 ⊢
      omega
/-- a code made simpler -/
def Sp.simpleCode (l : List Int) : List Int := if Sp.codeOk l = true then (Sp.treeOf l).simple.steps else []
theorem simpleCode_ok {l : List Int} (h : Sp.codeOk l = true) : Sp.codeOk (Sp.simpleCode l) = true ∧ ∀ n, Sp.run (Sp.simpleCode l) n = Sp.run l n := by
  obtain ⟨_, h2, h3, h4⟩ := tree_code h
  obtain ⟨k1, k2, k3⟩ := simple_facts _ h2
  have hl := (codeOk_len h).2
  have hok : Sp.codeOk (Sp.treeOf l).simple.steps = true := code_tree k1 (by rw [h3] at k3; omega)
  unfold Sp.simpleCode
  rw [if_pos h]
  refine ⟨hok, fun n => ?_⟩
  rw [← (tree_code hok).2.2.2 n, tree_steps k1, k2, h4]

end Go.Proofs.YtphdojebdclonaaDoor
