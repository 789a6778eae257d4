/- Joined texts. No condition. -/
import Derived.Test.YtphdojebdclonaaDoorQ13
import Derived.Test.YtphdojebdclonaaDoorQ4
/- Plain: the first plan, step by step, and the ways. No program in sight. No condition. -/
namespace Go.Proofs.YtphdojebdclonaaDoor
set_option linter.unusedSimpArgs false
set_option linter.unusedVariables false
open Go.RowKit

/-- how far a state is from the end -/
def Sp.toGo (t : Sp.Task) (s : Nat) : Int := Sp.dist (Sp.relB t) (Sp.truth t.goal) s
theorem toGo_bd (t : Sp.Task) {s : Nat} (hs : s < 32) : -1 ≤ Sp.toGo t s ∧ Sp.toGo t s ≤ 31 := dist_bd (truth_bd _) s hs
/-- a deed leads one step nearer -/
def Sp.hit (t : Sp.Task) (s k : Nat) : Bool := decide (0 ≤ Sp.stepI (t.deeds.getD k default) s) && (Sp.toGo t (Sp.stepI (t.deeds.getD k default) s).toNat == Sp.toGo t s - 1)
theorem hit_some {t : Sp.Task} (hok : Sp.taskOk t = true) {s : Nat} (hs : s < 32) (h : 0 < Sp.toGo t s) : ∃ k, k < t.deeds.length ∧ Sp.hit t s k = true := by
  have hS : Sp.truth t.goal < 2 ^ 32 := truth_bd _
  rcases Sp.dist_cases (rel := Sp.relB t) hS s hs with ⟨h1, _⟩ | ⟨n, hn, h1, h2⟩
  · unfold Sp.toGo at h; omega
  · cases n with
    | zero => unfold Sp.toGo at h; omega
    | succ m =>
      obtain ⟨_, s0, hs0, h3, h4⟩ := (Sp.img_bit _ _ _).1 ((Sp.fr_front hS m s hs).1 h2).1
      obtain ⟨k, hk, h5⟩ := (rel_iff t s s0 hs).1 h4
      refine ⟨k, hk, ?_⟩
      have h6 := Sp.dist_yes hS hs0 h3
      unfold Sp.hit Sp.toGo
      rw [h5, h1, Int.toNat_natCast, h6]
      simp
def Sp.first (t : Sp.Task) (s : Nat) : Option Nat := (List.range t.deeds.length).find? (Sp.hit t s)
theorem first_at {t : Sp.Task} {s k : Nat} (hk : k < t.deeds.length) (h : Sp.hit t s k = true) (hn : ∀ j, j < k → Sp.hit t s j = false) : Sp.first t s = some k := by
  unfold Sp.first
  rw [List.find?_range_eq_some]
  exact ⟨h, List.mem_range.2 hk, fun j hj => by rw [hn j hj]; rfl⟩
/-- the state and the plan behind i deeds -/
def Sp.planAt (t : Sp.Task) : Nat → Nat × List Int
  | 0 => (t.start.toNat, [])
  | i + 1 => match Sp.first t (Sp.planAt t i).1 with
    | some k => ((Sp.stepI (t.deeds.getD k default) (Sp.planAt t i).1).toNat, (Sp.planAt t i).2 ++ [(k : Int)])
    | none => Sp.planAt t i
/-- what is known behind i deeds -/
def Sp.OnPlan (t : Sp.Task) (i s : Nat) (l : List Int) : Prop := s < 32 ∧ l.length = i ∧ Sp.planAt t i = (s, l) ∧ Sp.toGo t s = Sp.toGo t t.start.toNat - i ∧ i ≤ 31 ∧ ∀ x ∈ l, Sp.inI x
theorem onPlan_zero {t : Sp.Task} (hok : Sp.taskOk t = true) : Sp.OnPlan t 0 t.start.toNat [] := by
  obtain ⟨h0, h1⟩ := Sp.taskOk_start hok
  exact ⟨by omega, rfl, rfl, by omega, by omega, fun x hx => by cases hx⟩
theorem onPlan_step {t : Sp.Task} {i s k u : Nat} {l : List Int} (hok : Sp.taskOk t = true) (h : Sp.OnPlan t i s l) (hp : 0 < Sp.toGo t s) (hk : k < t.deeds.length) (hx : Sp.stepI (t.deeds.getD k default) s = (u : Int))
    (hh : Sp.hit t s k = true) (hn : ∀ j, j < k → Sp.hit t s j = false) : Sp.OnPlan t (i + 1) u (l ++ [(k : Int)]) := by
  obtain ⟨h1, h2, h3, h4, h5, h6⟩ := h
  have hbd := stepI_bd h1 (Sp.taskOk_deed hok hk)
  have h7 : Sp.toGo t u = Sp.toGo t s - 1 := by
    unfold Sp.hit at hh
    rw [hx] at hh
    simp only [Int.toNat_natCast, Bool.and_eq_true, beq_iff_eq] at hh
    exact hh.2
  have h8 : Sp.toGo t t.start.toNat ≤ 31 := (toGo_bd t (by have := Sp.taskOk_start hok; omega)).2
  have h9 := Sp.taskOk_len hok
  refine ⟨by omega, by simp [h2], ?_, by omega, by omega, fun x hx => ?_⟩
  · show (match Sp.first t (Sp.planAt t i).1 with | some k => _ | none => _) = _
    rw [h3, first_at hk hh hn]
    simp only [hx, Int.toNat_natCast]
  · rw [List.mem_append, List.mem_singleton] at hx
    rcases hx with hx | rfl
    · exact h6 x hx
    · unfold Sp.inI; omega
def Sp.planFor (t : Sp.Task) : List Int := if Sp.taskOk t = true ∧ 0 ≤ Sp.toGo t t.start.toNat then (Sp.planAt t (Sp.toGo t t.start.toNat).toNat).2 else []
def Sp.planThere (t : Sp.Task) : Bool := Sp.taskOk t && decide (0 ≤ Sp.toGo t t.start.toNat)
theorem planFor_end {t : Sp.Task} {i s : Nat} {l : List Int} (hok : Sp.taskOk t = true) (h0 : 0 ≤ Sp.toGo t t.start.toNat) (h : Sp.OnPlan t i s l) (hp : ¬ 0 < Sp.toGo t s) (hi : i ≤ (Sp.toGo t t.start.toNat).toNat) : Sp.planFor t = l := by
  obtain ⟨h1, h2, h3, h4, h5, h6⟩ := h
  have : (Sp.toGo t t.start.toNat).toNat = i := by omega
  unfold Sp.planFor
  rw [if_pos ⟨hok, h0⟩, this, h3]
theorem planFor_none {t : Sp.Task} (h : Sp.planThere t = false) : Sp.planFor t = [] := by
  unfold Sp.planFor Sp.planThere at *
  rw [if_neg]
  rintro ⟨h1, h2⟩
  rw [h1] at h
  simp at h
  omega
theorem planAt_len (t : Sp.Task) (i : Nat) : (Sp.planAt t i).2.length ≤ i := by
  induction i with
  | zero => exact Nat.le_refl _
  | succ i ih =>
    simp only [Sp.planAt]
    split
    · simp; exact ih
    · omega
theorem planFor_len (t : Sp.Task) : (Sp.planFor t).length ≤ 1073741824 := by
  unfold Sp.planFor
  split
  · rename_i h
    have h0 := Sp.taskOk_start h.1
    have := toGo_bd t (s := t.start.toNat) (by omega)
    have := planAt_len t (Sp.toGo t t.start.toNat).toNat
    omega
  · simp

/-- the ways of a state that is m steps from the end, by the first k deeds -/
def Sp.waysBy (t : Sp.Task) (W : Nat → Int) (s : Nat) : Nat → Int
  | 0 => 0
  | k + 1 => if Sp.hit t s k = true then IntKind.i64.wrap (Sp.waysBy t W s k + W (Sp.stepI (t.deeds.getD k default) s).toNat) else Sp.waysBy t W s k
def Sp.waysUp (t : Sp.Task) : Nat → Nat → Int
  | 0, _ => 1
  | m + 1, s => Sp.waysBy t (Sp.waysUp t m) s t.deeds.length
def Sp.ways (t : Sp.Task) (s : Nat) : Int := if 0 ≤ Sp.toGo t s then Sp.waysUp t (Sp.toGo t s).toNat s else 0
theorem wrap_in (x : Int) : Sp.inI (IntKind.i64.wrap x) := by rw [IntKind.wrap_i64]; unfold Sp.inI; omega
theorem waysBy_in (t : Sp.Task) (W : Nat → Int) (s k : Nat) : Sp.inI (Sp.waysBy t W s k) := by
  induction k with
  | zero => unfold Sp.waysBy Sp.inI; omega
  | succ k ih =>
    unfold Sp.waysBy
    split
    · exact wrap_in _
    · exact ih
theorem waysUp_in (t : Sp.Task) (m s : Nat) : Sp.inI (Sp.waysUp t m s) := by
  cases m with
  | zero => unfold Sp.waysUp Sp.inI; omega
  | succ m => exact waysBy_in _ _ _ _
theorem ways_in (t : Sp.Task) (s : Nat) : Sp.inI (Sp.ways t s) := by
  unfold Sp.ways
  split
  · exact waysUp_in _ _ _
  · unfold Sp.inI; omega
/-- what the ways are by the time when the steps n are looked at, up to the state j -/
def Sp.waysTill (t : Sp.Task) (n j s : Nat) : Int := if 0 ≤ Sp.toGo t s ∧ (Sp.toGo t s < n ∨ (Sp.toGo t s = n ∧ s < j)) then Sp.ways t s else 0
theorem waysTill_zero (t : Sp.Task) (s : Nat) : Sp.waysTill t 0 0 s = 0 := by unfold Sp.waysTill; rw [if_neg (by omega)]
theorem waysTill_next (t : Sp.Task) {n s : Nat} (hs : s < 32) : Sp.waysTill t n 32 s = Sp.waysTill t (n + 1) 0 s := by
  unfold Sp.waysTill
  by_cases h : 0 ≤ Sp.toGo t s ∧ (Sp.toGo t s < n ∨ (Sp.toGo t s = n ∧ s < 32))
  · rw [if_pos h, if_pos (by omega)]
  · rw [if_neg h, if_neg (by omega)]
theorem waysTill_other (t : Sp.Task) {n j s : Nat} (h : s ≠ j ∨ Sp.toGo t s ≠ n) : Sp.waysTill t n (j + 1) s = Sp.waysTill t n j s := by
  unfold Sp.waysTill
  by_cases h2 : 0 ≤ Sp.toGo t s ∧ (Sp.toGo t s < n ∨ (Sp.toGo t s = n ∧ s < j))
  · rw [if_pos (by omega), if_pos h2]
  · rw [if_neg (by omega), if_neg h2]
theorem waysTill_this (t : Sp.Task) {n j : Nat} (h : Sp.toGo t j = n) : Sp.waysTill t n j j = 0 := by unfold Sp.waysTill; rw [if_neg (by omega)]
theorem waysTill_done (t : Sp.Task) {n j : Nat} (h : Sp.toGo t j = n) : Sp.waysTill t n (j + 1) j = Sp.waysUp t n j := by
  unfold Sp.waysTill Sp.ways
  rw [if_pos (by omega), if_pos (by omega), h, Int.toNat_natCast]
theorem waysTill_before (t : Sp.Task) {n j u : Nat} (h : Sp.toGo t u = n) : Sp.waysTill t (n + 1) j u = Sp.waysUp t n u := by
  unfold Sp.waysTill Sp.ways
  rw [if_pos (by omega), if_pos (by omega), h, Int.toNat_natCast]
theorem waysTill_end (t : Sp.Task) {s : Nat} (hs : s < 32) : Sp.waysTill t 32 0 s = Sp.ways t s := by
  have := toGo_bd t hs
  unfold Sp.waysTill
  by_cases h : 0 ≤ Sp.toGo t s
  · rw [if_pos (by omega)]
  · rw [if_neg (by omega)]; unfold Sp.ways; rw [if_neg h]
def Sp.waysTo (t : Sp.Task) : List Int := if Sp.taskOk t = true then (List.range 32).map (Sp.ways t) else []
theorem waysTo_len (t : Sp.Task) : (Sp.waysTo t).length ≤ 1073741824 := by unfold Sp.waysTo; split <;> simp

end Go.Proofs.YtphdojebdclonaaDoor
