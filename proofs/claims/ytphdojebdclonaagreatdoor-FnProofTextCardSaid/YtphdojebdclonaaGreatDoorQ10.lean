/- Joined texts. No condition. -/
import Derived.Test.YtphdojebdclonaaGreatDoorQ7
import Derived.Test.YtphdojebdclonaaGreatDoorQ4
import Derived.Test.YtphdojebdclonaaGreatDoorQ9
/- Plain: the first plan, step by step, and the ways. No program in sight. No condition. -/
namespace Go.Proofs.YtphdojebdclonaaGreatDoor
set_option linter.unusedSimpArgs false
set_option linter.unusedVariables false
open Go.RowKit

/-- how far a state is from the end -/
def Sp.toGo (t : Sp.Task) (s : Nat) : Int := Sp.dist (Sp.relB t) (Sp.truth t.goal) s
theorem toGo_bd (t : Sp.Task) {s : Nat} (hs : s < 32) : -1 ≤ Sp.toGo t s ∧ Sp.toGo t s ≤ 31 := dist_bd (truth_bd _) s hs
/-- a deed leads one step nearer -/
def Sp.hit (t : Sp.Task) (s k : Nat) : Bool := decide (0 ≤ Sp.stepI (t.deeds.getD k default) s) && (Sp.toGo t (Sp.stepI (t.deeds.getD k default) s).toNat == Sp.toGo t s - 1)
theorem hit_some {t : Sp.Task} (hok : Sp.taskOk t = true) {s : Nat} (hs : s < 32) (h : 0 < Sp.toGo t s) : ∃ k, k < t.deeds.length ∧ Sp.hit t s k = true := by
  have hS : Sp.truth t.goal < 2 ^ 32 := truth_bd _
  rcases Sp.dist_cases (rel := Sp.relB t) hS s hs with ⟨h1, _⟩ | ⟨n, hn, h1, h2⟩
  · unfold Sp.toGo at h; omega
  · cases n with
    | zero => unfold Sp.toGo at h; omega
    | succ m =>
      obtain ⟨_, s0, hs0, h3, h4⟩ := (Sp.img_bit _ _ _).1 ((Sp.fr_front hS m s hs).1 h2).1
      obtain ⟨k, hk, h5⟩ := (rel_iff t s s0 hs).1 h4
      refine ⟨k, hk, ?_⟩
      have h6 := Sp.dist_yes hS hs0 h3
      unfold Sp.hit Sp.toGo
      rw [h5, h1, Int.toNat_natCast, h6]
      simp
def Sp.first (t : Sp.Task) (s : Nat) : Option Nat := (List.range t.deeds.length).find? (Sp.hit t s)
theorem first_at {t : Sp.Task} {s k : Nat} (hk : k < t.deeds.length) (h : Sp.hit t s k = true) (hn : ∀ j, j < k → Sp.hit t s j = false) : Sp.first t s = some k := by
  unfold Sp.first
  rw [List.find?_range_eq_some]
  exact ⟨h, List.mem_range.2 hk, fun j hj => by rw [hn j hj]; rfl⟩
/-- the state and the plan behind i deeds -/
def Sp.planAt (t : Sp.Task) : Nat → Nat × List Int
  | 0 => (t.start.toNat, [])
  | i + 1 => match Sp.first t (Sp.planAt t i).1 with
    | some k => ((Sp.stepI (t.deeds.getD k default) (Sp.planAt t i).1).toNat, (Sp.planAt t i).2 ++ [(k : Int)])
    | none => Sp.planAt t i
/-- what is known behind i deeds -/
def Sp.OnPlan (t : Sp.Task) (i s : Nat) (l : List Int) : Prop := s < 32 ∧ l.length = i ∧ Sp.planAt t i = (s, l) ∧ Sp.toGo t s = Sp.toGo t t.start.toNat - i ∧ i ≤ 31 ∧ ∀ x ∈ l, Sp.inI x
theorem onPlan_zero {t : Sp.Task} (hok : Sp.taskOk t = true) : Sp.OnPlan t 0 t.start.toNat [] := by
  obtain ⟨h0, h1⟩ := Sp.taskOk_start hok
  exact ⟨by omega, rfl, rfl, by omega, by omega, fun x hx => by cases hx⟩
theorem onPlan_step {t : Sp.Task} {i s k u : Nat} {l : List Int} (hok : Sp.taskOk t = true) (h : Sp.OnPlan t i s l) (hp : 0 < Sp.toGo t s) (hk : k < t.deeds.length) (hx : Sp.stepI (t.deeds.getD k default) s = (u : Int))
    (hh : Sp.hit t s k = true) (hn : ∀ j, j < k → Sp.hit t s j = false) : Sp.OnPlan t (i + 1) u (l ++ [(k : Int)]) := by
  obtain ⟨h1, h2, h3, h4, h5, h6⟩ := h
  have hbd := stepI_bd h1 (Sp.taskOk_deed hok hk)
  have h7 : Sp.toGo t u = Sp.toGo t s - 1 := by
    unfold Sp.hit at hh
    rw [hx] at hh
    simp only [Int.toNat_natCast, Bool.and_eq_true, beq_iff_eq] at hh
    exact hh.2
  have h8 : Sp.toGo t t.start.toNat ≤ 31 := (toGo_bd t (by have := Sp.taskOk_start hok; omega)).2
  have h9 := Sp.taskOk_len hok
  refine ⟨by omega, by simp [h2], ?_, by omega, by omega, fun x hx => ?_⟩
  · show (match Sp.first t (Sp.planAt t i).1 with | some k => _ | none => _) = _
    rw [h3, first_at hk hh hn]
    simp only [hx, Int.toNat_natCast]
  · rw [List.mem_append, List.mem_singleton] at hx
    rcases hx with hx | rfl
    · exact h6 x hx
    · unfold Sp.inI; omega
def Sp.planFor (t : Sp.Task) : List Int := if Sp.taskOk t = true ∧ 0 ≤ Sp.toGo t t.start.toNat then (Sp.planAt t (Sp.toGo t t.start.toNat).toNat).2 else []
def Sp.planThere (t : Sp.Task) : Bool := Sp.taskOk t && decide (0 ≤ Sp.toGo t t.start.toNat)
theorem planFor_end {t : Sp.Task} {i s : Nat} {l : List Int} (hok : Sp.taskOk t = true) (h0 : 0 ≤ Sp.toGo t t.start.toNat) (h : Sp.OnPlan t i s l) (hp : ¬ 0 < Sp.toGo t s) (hi : i ≤ (Sp.toGo t t.start.toNat).toNat) : Sp.planFor t = l := by
  obtain ⟨h1, h2, h3, h4, h5, h6⟩ := h
  have : (Sp.toGo t t.start.toNat).toNat = i := by omega
  unfold Sp.planFor
  rw [if_pos ⟨hok, h0⟩, this, h3]
theorem planFor_none {t : Sp.Task} (h : Sp.planThere t = false) : Sp.planFor t = [] := by
  unfold Sp.planFor Sp.planThere at *
  rw [if_neg]
  rintro ⟨h1, h2⟩
  rw [h1] at h
  simp at h
  omega
theorem planAt_len (t : Sp.Task) (i : Nat) : (Sp.planAt t i).2.length ≤ i := by
  induction i with
  | zero => exact Nat.le_refl _
  | succ i ih =>
    simp only [Sp.planAt]
    split
    · simp; exact ih
    · omega
theorem planFor_len (t : Sp.Task) : (Sp.planFor t).length ≤ 1073741824 := by
  unfold Sp.planFor
  split
  · rename_i h
    have h0 := Sp.taskOk_start h.1
    have := toGo_bd t (s := t.start.toNat) (by omega)
    have := planAt_len t (Sp.toGo t t.start.toNat).toNat
    omega
  · simp

/-- the ways of a state that is m steps from the end, by the first k deeds -/
def Sp.waysBy (t : Sp.Task) (W : Nat → Int) (s : Nat) : Nat → Int
  | 0 => 0
  | k + 1 => if Sp.hit t s k = true then IntKind.i64.wrap (Sp.waysBy t W s k + W (Sp.stepI (t.deeds.getD k default) s).toNat) else Sp.waysBy t W s k
def Sp.waysUp (t : Sp.Task) : Nat → Nat → Int
  | 0, _ => 1
  | m + 1, s => Sp.waysBy t (Sp.waysUp t m) s t.deeds.length
def Sp.ways (t : Sp.Task) (s : Nat) : Int := if 0 ≤ Sp.toGo t s then Sp.waysUp t (Sp.toGo t s).toNat s else 0
theorem wrap_in (x : Int) : Sp.inI (IntKind.i64.wrap x) := by rw [IntKind.wrap_i64]; unfold Sp.inI; omega
theorem waysBy_in (t : Sp.Task) (W : Nat → Int) (s k : Nat) : Sp.inI (Sp.waysBy t W s k) := by
  induction k with
  | zero => unfold Sp.waysBy Sp.inI; omega
  | succ k ih =>
    unfold Sp.waysBy
    split
    · exact wrap_in _
    · exact ih
theorem waysUp_in (t : Sp.Task) (m s : Nat) : Sp.inI (Sp.waysUp t m s) := by
  cases m with
  | zero => unfold Sp.waysUp Sp.inI; omega
  | succ m => exact waysBy_in _ _ _ _
theorem ways_in (t : Sp.Task) (s : Nat) : Sp.inI (Sp.ways t s) := by
  unfold Sp.ways
  split
  · exact waysUp_in _ _ _
  · unfold Sp.inI; omega
/-- what the ways are by the time when the steps n are looked at, up to the state j -/
def Sp.waysTill (t : Sp.Task) (n j s : Nat) : Int := if 0 ≤ Sp.toGo t s ∧ (Sp.toGo t s < n ∨ (Sp.toGo t s = n ∧ s < j)) then Sp.ways t s else 0
theorem waysTill_zero (t : Sp.Task) (s : Nat) : Sp.waysTill t 0 0 s = 0 := by unfold Sp.waysTill; rw [if_neg (by omega)]
theorem waysTill_next (t : Sp.Task) {n s : Nat} (hs : s < 32) : Sp.waysTill t n 32 s = Sp.waysTill t (n + 1) 0 s := by
  unfold Sp.waysTill
  by_cases h : 0 ≤ Sp.toGo t s ∧ (Sp.toGo t s < n ∨ (Sp.toGo t s = n ∧ s < 32))
  · rw [if_pos h, if_pos (by omega)]
  · rw [if_neg h, if_neg (by omega)]
theorem waysTill_other (t : Sp.Task) {n j s : Nat} (h : s ≠ j ∨ Sp.toGo t s ≠ n) : Sp.waysTill t n (j + 1) s = Sp.waysTill t n j s := by
  unfold Sp.waysTill
  by_cases h2 : 0 ≤ Sp.toGo t s ∧ (Sp.toGo t s < n ∨ (Sp.toGo t s = n ∧ s < j))
  · rw [if_pos (by omega), if_pos h2]
  · rw [if_neg (by omega), if_neg h2]
theorem waysTill_this (t : Sp.Task) {n j : Nat} (h : Sp.toGo t j = n) : Sp.waysTill t n j j = 0 := by unfold Sp.waysTill; rw [if_neg (by omega)]
theorem waysTill_done (t : Sp.Task) {n j : Nat} (h : Sp.toGo t j = n) : Sp.waysTill t n (j + 1) j = Sp.waysUp t n j := by
  unfold Sp.waysTill Sp.ways
  rw [if_pos (by omega), if_pos (by omega), h, Int.toNat_natCast]
theorem waysTill_before (t : Sp.Task) {n j u : Nat} (h : Sp.toGo t u = n) : Sp.waysTill t (n + 1) j u = Sp.waysUp t n u := by
  unfold Sp.waysTill Sp.ways
  rw [if_pos (by omega), if_pos (by omega), h, Int.toNat_natCast]
theorem waysTill_end (t : Sp.Task) {s : Nat} (hs : s < 32) : Sp.waysTill t 32 0 s = Sp.ways t s := by
  have := toGo_bd t hs
  unfold Sp.waysTill
  by_cases h : 0 ≤ Sp.toGo t s
  · rw [if_pos (by omega)]
  · rw [if_neg (by omega)]; unfold Sp.ways; rw [if_neg h]
def Sp.waysTo (t : Sp.Task) : List Int := if Sp.taskOk t = true then (List.range 32).map (Sp.ways t) else []
theorem waysTo_len (t : Sp.Task) : (Sp.waysTo t).length ≤ 1073741824 := by unfold Sp.waysTo; split <;> simp

end Go.Proofs.YtphdojebdclonaaGreatDoor
/- Plain: plans as they run. No program in sight. No condition. -/
namespace Go.Proofs.YtphdojebdclonaaGreatDoor
set_option linter.unusedSimpArgs false
set_option linter.unusedVariables false
open Go.RowKit

theorem edge_toGo {t : Sp.Task} (hok : Sp.taskOk t = true) {j k u : Nat} (hj : j < 32) (hk : k < t.deeds.length) (h : Sp.stepI (t.deeds.getD k default) j = (u : Int)) (hu : 0 ≤ Sp.toGo t u) : 0 ≤ Sp.toGo t j ∧ Sp.toGo t j ≤ Sp.toGo t u + 1 := by
  have hb := stepI_bd hj (Sp.taskOk_deed hok hk)
  exact dist_edge (rel := Sp.relB t) (truth_bd _) (show u < 32 by omega) hj hu ((rel_iff t j u hj).2 ⟨k, hk, h⟩)
theorem leads_toGo {t : Sp.Task} {j : Nat} (hj : j < 32) : decide (0 ≤ Sp.toGo t j) = (Sp.leadsN t).testBit j := by
  rw [Bool.eq_iff_iff, decide_eq_true_eq]
  exact dist_iff (truth_bd _) hj
theorem zero_toGo {t : Sp.Task} {j : Nat} (hj : j < 32) : Sp.run t.goal j = decide (Sp.toGo t j = 0) := by
  rw [Bool.eq_iff_iff, decide_eq_true_eq]
  refine Iff.trans ?_ (dist_zero_iff (rel := Sp.relB t) (truth_bd _) hj).symm
  unfold Sp.truth
  rw [Sp.testBit_setOf]
  simp [hj]

/-- the state behind a plan, -1 if one of its deeds may not be done -/
def Sp.goOn (t : Sp.Task) : Nat → List Int → Int
  | s, [] => s
  | s, k :: l => if 0 ≤ k ∧ k < t.deeds.length ∧ 0 ≤ Sp.stepI (t.deeds.getD k.toNat default) s then Sp.goOn t (Sp.stepI (t.deeds.getD k.toNat default) s).toNat l else -1
theorem goOn_nil (t : Sp.Task) (s : Nat) : Sp.goOn t s [] = (s : Int) := rfl
theorem goOn_cons (t : Sp.Task) (s : Nat) (k : Int) (l : List Int) : Sp.goOn t s (k :: l) = if 0 ≤ k ∧ k < t.deeds.length ∧ 0 ≤ Sp.stepI (t.deeds.getD k.toNat default) s then Sp.goOn t (Sp.stepI (t.deeds.getD k.toNat default) s).toNat l else -1 := rfl
theorem goOn_bd {t : Sp.Task} (hok : Sp.taskOk t = true) (l : List Int) : ∀ s, s < 32 → -1 ≤ Sp.goOn t s l ∧ Sp.goOn t s l ≤ 31 := by
  induction l with
  | nil => intro s hs; rw [goOn_nil]; omega
  | cons k l ih =>
    intro s hs
    rw [goOn_cons]
    split
    · rename_i h
      have := stepI_bd hs (Sp.taskOk_deed hok (show k.toNat < t.deeds.length by omega))
      exact ih _ (by omega)
    · omega
theorem goOn_append (t : Sp.Task) (b : List Int) (a : List Int) : ∀ s, Sp.goOn t s (a ++ b) = if 0 ≤ Sp.goOn t s a then Sp.goOn t (Sp.goOn t s a).toNat b else -1 := by
  induction a with
  | nil => intro s; show Sp.goOn t s b = if (0 : Int) ≤ (s : Int) then Sp.goOn t ((s : Int)).toNat b else -1; rw [if_pos (by omega), Int.toNat_natCast]
  | cons k a ih =>
    intro s
    rw [List.cons_append, goOn_cons, goOn_cons]
    split
    · exact ih _
    · simp
theorem goOn_one (t : Sp.Task) (s : Nat) (k : Int) : Sp.goOn t s [k] = if 0 ≤ k ∧ k < t.deeds.length ∧ 0 ≤ Sp.stepI (t.deeds.getD k.toNat default) s then Sp.stepI (t.deeds.getD k.toNat default) s else -1 := by
  rw [goOn_cons]
  split
  · rw [goOn_nil]; omega
  · rfl
theorem goOn_bad {t : Sp.Task} {s : Nat} {l : List Int} (i : Nat) (h : Sp.goOn t s (l.take i) < 0) : Sp.goOn t s l = -1 := by
  have e : l = l.take i ++ l.drop i := (List.take_append_drop i l).symm
  rw [e, goOn_append, if_neg (by omega)]
theorem goOn_next {t : Sp.Task} {s i u : Nat} {l : List Int} (hi : i < l.length) (h : Sp.goOn t s (l.take i) = (u : Int)) :
    Sp.goOn t s (l.take (i + 1)) = if 0 ≤ l.getD i default ∧ l.getD i default < t.deeds.length ∧ 0 ≤ Sp.stepI (t.deeds.getD (l.getD i default).toNat default) u then Sp.stepI (t.deeds.getD (l.getD i default).toNat default) u else -1 := by
  have e : l.take (i + 1) = l.take i ++ [l.getD i default] := by
    rw [List.take_succ_eq_append_getElem hi]; simp [List.getD, hi]
  rw [e, goOn_append, h, if_pos (by omega), Int.toNat_natCast, goOn_one]

def Sp.planRun (t : Sp.Task) (s : Int) (l : List Int) : Int := if Sp.taskOk t = true ∧ Sp.stOk s = true ∧ l.length ≤ 40 then Sp.goOn t s.toNat l else -1
theorem planRun_bd (t : Sp.Task) (s : Int) (l : List Int) : -1 ≤ Sp.planRun t s l ∧ Sp.planRun t s l ≤ 31 := by
  unfold Sp.planRun
  split
  · rename_i h
    have h2 := h.2.1
    unfold Sp.stOk at h2
    simp only [decide_eq_true_eq] at h2
    exact goOn_bd h.1 l _ (by omega)
  · omega
def Sp.planOk (t : Sp.Task) (l : List Int) : Bool := decide (0 ≤ Sp.planRun t t.start l) && Sp.run t.goal (Sp.planRun t t.start l).toNat

/-- a plan that leads to the end is not shorter than the number tells -/
theorem goOn_toGo {t : Sp.Task} (hok : Sp.taskOk t = true) (l : List Int) : ∀ s, s < 32 → 0 ≤ Sp.goOn t s l → Sp.toGo t (Sp.goOn t s l).toNat = 0 → 0 ≤ Sp.toGo t s ∧ Sp.toGo t s ≤ l.length := by
  induction l with
  | nil => intro s hs _ h; rw [goOn_nil] at h; rw [Int.toNat_natCast] at h; simp only [List.length_nil]; omega
  | cons k l ih =>
    intro s hs h0 h
    rw [goOn_cons] at h0 h
    split at h0
    · rename_i hc
      rw [if_pos hc] at h
      have hb := stepI_bd hs (Sp.taskOk_deed hok (show k.toNat < t.deeds.length by omega))
      have h1 := ih _ (by omega) h0 h
      obtain ⟨u, hu⟩ := Int.eq_ofNat_of_zero_le hc.2.2
      rw [hu, Int.toNat_natCast] at h1
      have h2 := edge_toGo hok hs (show k.toNat < t.deeds.length by omega) hu h1.1
      simp only [List.length_cons]
      omega
    · omega
theorem planOk_least {t : Sp.Task} {l : List Int} (h : Sp.planOk t l = true) : Sp.taskOk t = true ∧ 0 ≤ Sp.toGo t t.start.toNat ∧ Sp.toGo t t.start.toNat ≤ l.length := by
  unfold Sp.planOk at h
  rw [Bool.and_eq_true, decide_eq_true_eq] at h
  obtain ⟨h0, h1⟩ := h
  have hb := planRun_bd t t.start l
  rw [zero_toGo (by omega), decide_eq_true_eq] at h1
  unfold Sp.planRun at h0 h1
  split at h0
  · rename_i hc
    rw [if_pos hc] at h1
    exact ⟨hc.1, goOn_toGo hc.1 l _ (start_lt hc.1) h0 h1⟩
  · omega
/-- what a plan reaches is reached -/
theorem goOn_reached {t : Sp.Task} (hok : Sp.taskOk t = true) (l : List Int) : ∀ s, s < 32 → (Sp.reachedN t).testBit s = true → 0 ≤ Sp.goOn t s l → (Sp.reachedN t).testBit (Sp.goOn t s l).toNat = true := by
  induction l with
  | nil => intro s hs h _; rw [goOn_nil]; rw [Int.toNat_natCast]; exact h
  | cons k l ih =>
    intro s hs h h0
    rw [goOn_cons] at h0 ⊢
    split at h0
    · rename_i hc
      rw [if_pos hc]
      have hb := stepI_bd hs (Sp.taskOk_deed hok (show k.toNat < t.deeds.length by omega))
      obtain ⟨u, hu⟩ := Int.eq_ofNat_of_zero_le hc.2.2
      rw [hu, Int.toNat_natCast] at h0 ⊢
      refine ih u (by omega) ?_ h0
      exact all_closed (start_set hok) hs (by omega) h ((rel_iff t s u hs).2 ⟨k.toNat, by omega, hu⟩)
    · omega
theorem start_in {t : Sp.Task} : (Sp.reachedN t).testBit t.start.toNat = true :=
  Sp.rch_mono (n := 0) (Nat.zero_le _) _ (by show (2 ^ t.start.toNat).testBit t.start.toNat = true; rw [Nat.testBit_two_pow]; simp)
/-- the plan of the table runs -/
theorem planAt_on {t : Sp.Task} (hok : Sp.taskOk t = true) (i : Nat) (hi : (i : Int) ≤ Sp.toGo t t.start.toNat) : ∃ s l, Sp.OnPlan t i s l ∧ Sp.goOn t t.start.toNat l = (s : Int) := by
  induction i with
  | zero => exact ⟨_, _, onPlan_zero hok, rfl⟩
  | succ i ih =>
    obtain ⟨s, l, h1, h2⟩ := ih (by omega)
    have hp : 0 < Sp.toGo t s := by have := h1.2.2.2.1; omega
    obtain ⟨k0, hk0, hh0⟩ := hit_some hok h1.1 hp
    cases hf : Sp.first t s with
    | none =>
      have := List.find?_eq_none.1 hf k0 (List.mem_range.2 hk0)
      rw [hh0] at this; simp at this
    | some k =>
      unfold Sp.first at hf
      rw [List.find?_range_eq_some] at hf
      obtain ⟨h3, h4, h5⟩ := hf
      have hk := List.mem_range.1 h4
      have h6 : 0 ≤ Sp.stepI (t.deeds.getD k default) s := by
        unfold Sp.hit at h3
        rw [Bool.and_eq_true, decide_eq_true_eq] at h3
        exact h3.1
      obtain ⟨u, hu⟩ := Int.eq_ofNat_of_zero_le h6
      refine ⟨u, l ++ [(k : Int)], onPlan_step hok h1 hp hk hu h3 (fun j hj => by have := h5 j hj; simpa using this), ?_⟩
      rw [goOn_append, h2, if_pos (by omega), Int.toNat_natCast, goOn_one, Int.toNat_natCast, if_pos ⟨by omega, by omega, h6⟩, hu]
theorem planFor_on {t : Sp.Task} (h : Sp.planThere t = true) : Sp.taskOk t = true ∧ ((Sp.planFor t).length : Int) = Sp.toGo t t.start.toNat ∧ 0 ≤ Sp.toGo t t.start.toNat ∧ Sp.planOk t (Sp.planFor t) = true := by
  unfold Sp.planThere at h
  rw [Bool.and_eq_true, decide_eq_true_eq] at h
  obtain ⟨hok, h0⟩ := h
  obtain ⟨n, hn⟩ := Int.eq_ofNat_of_zero_le h0
  obtain ⟨s, l, h1, h2⟩ := planAt_on hok n (by omega)
  obtain ⟨h3, h4, h5, h6, h7, _⟩ := h1
  have e : Sp.planFor t = l := by
    unfold Sp.planFor
    rw [if_pos ⟨hok, h0⟩, hn, Int.toNat_natCast, h5]
  have hst : Sp.stOk t.start = true := by have := Sp.taskOk_start hok; unfold Sp.stOk; simp; omega
  rw [e]
  refine ⟨hok, by omega, h0, ?_⟩
  unfold Sp.planOk Sp.planRun
  rw [if_pos ⟨hok, hst, by omega⟩, h2, Int.toNat_natCast, zero_toGo h3]
  simp; omega

end Go.Proofs.YtphdojebdclonaaGreatDoor
