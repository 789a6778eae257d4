/- Joined texts. No condition. -/
import Derived.Test.YtphdojebdclonaaDoorQ20
import Derived.Test.YtphdojebdclonaaDoorQ16
/- Plain: plans as they run. No program in sight. No condition. -/
namespace Go.Proofs.YtphdojebdclonaaDoor
set_option linter.unusedSimpArgs false
set_option linter.unusedVariables false
open Go.RowKit

theorem edge_toGo {t : Sp.Task} (hok : Sp.taskOk t = true) {j k u : Nat} (hj : j < 32) (hk : k < t.deeds.length) (h : Sp.stepI (t.deeds.getD k default) j = (u : Int)) (hu : 0 ≤ Sp.toGo t u) : 0 ≤ Sp.toGo t j ∧ Sp.toGo t j ≤ Sp.toGo t u + 1 := by
  have hb := stepI_bd hj (Sp.taskOk_deed hok hk)
  exact dist_edge (rel := Sp.relB t) (truth_bd _) (show u < 32 by omega) hj hu ((rel_iff t j u hj).2 ⟨k, hk, h⟩)
theorem leads_toGo {t : Sp.Task} {j : Nat} (hj : j < 32) : decide (0 ≤ Sp.toGo t j) = (Sp.leadsN t).testBit j := by
  rw [Bool.eq_iff_iff, decide_eq_true_eq]
  exact dist_iff (truth_bd _) hj
theorem zero_toGo {t : Sp.Task} {j : Nat} (hj : j < 32) : Sp.run t.goal j = decide (Sp.toGo t j = 0) := by
  rw [Bool.eq_iff_iff, decide_eq_true_eq]
  refine Iff.trans ?_ (dist_zero_iff (rel := Sp.relB t) (truth_bd _) hj).symm
  unfold Sp.truth
  rw [Sp.testBit_setOf]
  simp [hj]

/-- the state behind a plan, -1 if one of its deeds may not be done -/
def Sp.goOn (t : Sp.Task) : Nat → List Int → Int
  | s, [] => s
  | s, k :: l => if 0 ≤ k ∧ k < t.deeds.length ∧ 0 ≤ Sp.stepI (t.deeds.getD k.toNat default) s then Sp.goOn t (Sp.stepI (t.deeds.getD k.toNat default) s).toNat l else -1
theorem goOn_nil (t : Sp.Task) (s : Nat) : Sp.goOn t s [] = (s : Int) := rfl
theorem goOn_cons (t : Sp.Task) (s : Nat) (k : Int) (l : List Int) : Sp.goOn t s (k :: l) = if 0 ≤ k ∧ k < t.deeds.length ∧ 0 ≤ Sp.stepI (t.deeds.getD k.toNat default) s then Sp.goOn t (Sp.stepI (t.deeds.getD k.toNat default) s).toNat l else -1 := rfl
theorem goOn_bd {t : Sp.Task} (hok : Sp.taskOk t = true) (l : List Int) : ∀ s, s < 32 → -1 ≤ Sp.goOn t s l ∧ Sp.goOn t s l ≤ 31 := by
  induction l with
  | nil => intro s hs; rw [goOn_nil]; omega
  | cons k l ih =>
    intro s hs
    rw [goOn_cons]
    split
    · rename_i h
      have := stepI_bd hs (Sp.taskOk_deed hok (show k.toNat < t.deeds.length by omega))
      exact ih _ (by omega)
    · omega
theorem goOn_append (t : Sp.Task) (b : List Int) (a : List Int) : ∀ s, Sp.goOn t s (a ++ b) = if 0 ≤ Sp.goOn t s a then Sp.goOn t (Sp.goOn t s a).toNat b else -1 := by
  induction a with
  | nil => intro s; show Sp.goOn t s b = if (0 : Int) ≤ (s : Int) then Sp.goOn t ((s : Int)).toNat b else -1; rw [if_pos (by omega), Int.toNat_natCast]
  | cons k a ih =>
    intro s
    rw [List.cons_append, goOn_cons, goOn_cons]
    split
    · exact ih _
    · simp
theorem goOn_one (t : Sp.Task) (s : Nat) (k : Int) : Sp.goOn t s [k] = if 0 ≤ k ∧ k < t.deeds.length ∧ 0 ≤ Sp.stepI (t.deeds.getD k.toNat default) s then Sp.stepI (t.deeds.getD k.toNat default) s else -1 := by
  rw [goOn_cons]
  split
  · rw [goOn_nil]; omega
  · rfl
theorem goOn_bad {t : Sp.Task} {s : Nat} {l : List Int} (i : Nat) (h : Sp.goOn t s (l.take i) < 0) : Sp.goOn t s l = -1 := by
  have e : l = l.take i ++ l.drop i := (List.take_append_drop i l).symm
  rw [e, goOn_append, if_neg (by omega)]
theorem goOn_next {t : Sp.Task} {s i u : Nat} {l : List Int} (hi : i < l.length) (h : Sp.goOn t s (l.take i) = (u : Int)) :
    Sp.goOn t s (l.take (i + 1)) = if 0 ≤ l.getD i default ∧ l.getD i default < t.deeds.length ∧ 0 ≤ Sp.stepI (t.deeds.getD (l.getD i default).toNat default) u then Sp.stepI (t.deeds.getD (l.getD i default).toNat default) u else -1 := by
  have e : l.take (i + 1) = l.take i ++ [l.getD i default] := by
    rw [List.take_succ_eq_append_getElem hi]; simp [List.getD, hi]
  rw [e, goOn_append, h, if_pos (by omega), Int.toNat_natCast, goOn_one]

def Sp.planRun (t : Sp.Task) (s : Int) (l : List Int) : Int := if Sp.taskOk t = true ∧ Sp.stOk s = true ∧ l.length ≤ 40 then Sp.goOn t s.toNat l else -1
theorem planRun_bd (t : Sp.Task) (s : Int) (l : List Int) : -1 ≤ Sp.planRun t s l ∧ Sp.planRun t s l ≤ 31 := by
  unfold Sp.planRun
  split
  · rename_i h
    have h2 := h.2.1
    unfold Sp.stOk at h2
    simp only [decide_eq_true_eq] at h2
    exact goOn_bd h.1 l _ (by omega)
  · omega
def Sp.planOk (t : Sp.Task) (l : List Int) : Bool := decide (0 ≤ Sp.planRun t t.start l) && Sp.run t.goal (Sp.planRun t t.start l).toNat

/-- a plan that leads to the end is not shorter than the number tells -/
theorem goOn_toGo {t : Sp.Task} (hok : Sp.taskOk t = true) (l : List Int) : ∀ s, s < 32 → 0 ≤ Sp.goOn t s l → Sp.toGo t (Sp.goOn t s l).toNat = 0 → 0 ≤ Sp.toGo t s ∧ Sp.toGo t s ≤ l.length := by
  induction l with
  | nil => intro s hs _ h; rw [goOn_nil] at h; rw [Int.toNat_natCast] at h; simp only [List.length_nil]; omega
  | cons k l ih =>
    intro s hs h0 h
    rw [goOn_cons] at h0 h
    split at h0
    · rename_i hc
      rw [if_pos hc] at h
      have hb := stepI_bd hs (Sp.taskOk_deed hok (show k.toNat < t.deeds.length by omega))
      have h1 := ih _ (by omega) h0 h
      obtain ⟨u, hu⟩ := Int.eq_ofNat_of_zero_le hc.2.2
      rw [hu, Int.toNat_natCast] at h1
      have h2 := edge_toGo hok hs (show k.toNat < t.deeds.length by omega) hu h1.1
      simp only [List.length_cons]
      omega
    · omega
theorem planOk_least {t : Sp.Task} {l : List Int} (h : Sp.planOk t l = true) : Sp.taskOk t = true ∧ 0 ≤ Sp.toGo t t.start.toNat ∧ Sp.toGo t t.start.toNat ≤ l.length := by
  unfold Sp.planOk at h
  rw [Bool.and_eq_true, decide_eq_true_eq] at h
  obtain ⟨h0, h1⟩ := h
  have hb := planRun_bd t t.start l
  rw [zero_toGo (by omega), decide_eq_true_eq] at h1
  unfold Sp.planRun at h0 h1
  split at h0
  · rename_i hc
    rw [if_pos hc] at h1
    exact ⟨hc.1, goOn_toGo hc.1 l _ (start_lt hc.1) h0 h1⟩
  · omega
/-- what a plan reaches is reached -/
theorem goOn_reached {t : Sp.Task} (hok : Sp.taskOk t = true) (l : List Int) : ∀ s, s < 32 → (Sp.reachedN t).testBit s = true → 0 ≤ Sp.goOn t s l → (Sp.reachedN t).testBit (Sp.goOn t s l).toNat = true := by
  induction l with
  | nil => intro s hs h _; rw [goOn_nil]; rw [Int.toNat_natCast]; exact h
  | cons k l ih =>
    intro s hs h h0
    rw [goOn_cons] at h0 ⊢
    split at h0
    · rename_i hc
      rw [if_pos hc]
      have hb := stepI_bd hs (Sp.taskOk_deed hok (show k.toNat < t.deeds.length by omega))
      obtain ⟨u, hu⟩ := Int.eq_ofNat_of_zero_le hc.2.2
      rw [hu, Int.toNat_natCast] at h0 ⊢
      refine ih u (by omega) ?_ h0
      exact all_closed (start_set hok) hs (by omega) h ((rel_iff t s u hs).2 ⟨k.toNat, by omega, hu⟩)
    · omega
theorem start_in {t : Sp.Task} : (Sp.reachedN t).testBit t.start.toNat = true :=
  Sp.rch_mono (n := 0) (Nat.zero_le _) _ (by show (2 ^ t.start.toNat).testBit t.start.toNat = true; rw [Nat.testBit_two_pow]; simp)
/-- the plan of the table runs -/
theorem planAt_on {t : Sp.Task} (hok : Sp.taskOk t = true) (i : Nat) (hi : (i : Int) ≤ Sp.toGo t t.start.toNat) : ∃ s l, Sp.OnPlan t i s l ∧ Sp.goOn t t.start.toNat l = (s : Int) := by
  induction i with
  | zero => exact ⟨_, _, onPlan_zero hok, rfl⟩
  | succ i ih =>
    obtain ⟨s, l, h1, h2⟩ := ih (by omega)
    have hp : 0 < Sp.toGo t s := by have := h1.2.2.2.1; omega
    obtain ⟨k0, hk0, hh0⟩ := hit_some hok h1.1 hp
    cases hf : Sp.first t s with
    | none =>
      have := List.find?_eq_none.1 hf k0 (List.mem_range.2 hk0)
      rw [hh0] at this; simp at this
    | some k =>
      unfold Sp.first at hf
      rw [List.find?_range_eq_some] at hf
      obtain ⟨h3, h4, h5⟩ := hf
      have hk := List.mem_range.1 h4
      have h6 : 0 ≤ Sp.stepI (t.deeds.getD k default) s := by
        unfold Sp.hit at h3
        rw [Bool.and_eq_true, decide_eq_true_eq] at h3
        exact h3.1
      obtain ⟨u, hu⟩ := Int.eq_ofNat_of_zero_le h6
      refine ⟨u, l ++ [(k : Int)], onPlan_step hok h1 hp hk hu h3 (fun j hj => by have := h5 j hj; simpa using this), ?_⟩
      rw [goOn_append, h2, if_pos (by omega), Int.toNat_natCast, goOn_one, Int.toNat_natCast, if_pos ⟨by omega, by omega, h6⟩, hu]
theorem planFor_on {t : Sp.Task} (h : Sp.planThere t = true) : Sp.taskOk t = true ∧ ((Sp.planFor t).length : Int) = Sp.toGo t t.start.toNat ∧ 0 ≤ Sp.toGo t t.start.toNat ∧ Sp.planOk t (Sp.planFor t) = true := by
  unfold Sp.planThere at h
  rw [Bool.and_eq_true, decide_eq_true_eq] at h
  obtain ⟨hok, h0⟩ := h
  obtain ⟨n, hn⟩ := Int.eq_ofNat_of_zero_le h0
  obtain ⟨s, l, h1, h2⟩ := planAt_on hok n (by omega)
  obtain ⟨h3, h4, h5, h6, h7, _⟩ := h1
  have e : Sp.planFor t = l := by
    unfold Sp.planFor
    rw [if_pos ⟨hok, h0⟩, hn, Int.toNat_natCast, h5]
  have hst : Sp.stOk t.start = true := by have := Sp.taskOk_start hok; unfold Sp.stOk; simp; omega
  rw [e]
  refine ⟨hok, by omega, h0, ?_⟩
  unfold Sp.planOk Sp.planRun
  rw [if_pos ⟨hok, hst, by omega⟩, h2, Int.toNat_natCast, zero_toGo h3]
  simp; omega

end Go.Proofs.YtphdojebdclonaaDoor
