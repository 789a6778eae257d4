/- The law FnGoalOne, walked. No condition. -/
import Derived.Test.YtfbpcbjlogdflaaD8
import Derived.Test.YtfbpcbjlogdflaaA1
import Derived.Test.YtfbpcbjlogdflaaRowB
import Derived.Deep.RegionHeld3
namespace Go.Proofs.Ytfbpcbjlogdflaa
open Go.RowKit

theorem goalOne_cases (t : Sp.Task) : Sp.goalOne t = -1 ∨ (Sp.taskOk t = true ∧ ∃ k : Nat, k < 32 ∧ Sp.goalOne t = k ∧ Sp.truth t.goal = 2 ^ k) := by
  unfold Sp.goalOne
  by_cases h : Sp.taskOk t = true
  · rw [if_pos h]
    unfold Sp.oneOf
    cases hf : (List.range 32).find? (fun s => Sp.setOf 32 (Sp.run t.goal) == 2 ^ s) with
    | none => exact .inl rfl
    | some s =>
      have h1 := List.find?_some hf
      have h2 := List.mem_range.1 (List.mem_of_find?_eq_some hf)
      have h3 : Sp.setOf 32 (Sp.run t.goal) = 2 ^ s := by simpa using h1
      exact .inr ⟨h, s, h2, rfl, h3⟩
  · rw [if_neg h]; exact .inl rfl

set_option maxHeartbeats 1000000 in
set_option maxRecDepth 100000 in
theorem l_GoalOne (A : Option Addr) (n c : Nat) (w : World) (h : BytesV w A n ∧ n ≤ c ∧ c ≤ maxLen) : Calls Try.prog 14 #[.slice A n c] w (RetK (.bool true) w) := by
  by_cases hn : 1048576 < n
  · have hn1 : (1048576 : Int) < (n : Int) := by omega
    go_enter Try.func14, Try.ntmps14
    go_wp2_with fail
    go_ret
    exact ⟨rfl, Kept.refl _⟩
  have hn1 : ¬ (1048576 : Int) < (n : Int) := by omega
  go_enter Try.func14, Try.ntmps14
  go_wp2_with fail
  refine (c_drawGoalOne A n c w h).mono ?_; rintro e w2 ⟨tv, rfl, ⟨t, hTV⟩, hk2⟩
  obtain ⟨A1, m1, c1, A2, m2, c2, rfl⟩ := hTV.form
  have hk0 := hk2.alloc (.cells #[.int .i64 t.start, .slice A1 m1 c1, .slice A2 m2 c2] 30)
  have hT := hTV.keep ((Kept.refl w2).alloc (.cells #[.int .i64 t.start, .slice A1 m1 c1, .slice A2 m2 c2] 30))
  have B0 := Blk.new w2 30 #[.int .i64 t.start, .slice A1 m1 c1, .slice A2 m2 c2]
  clear hk2 hTV
  go_wp2_with fail
  refine (c_iGoalOne _ t _ hT).mono ?_; rintro e w3 ⟨rfl, hk3⟩
  replace hk0 := hk0.trans hk3
  replace B0 := B0.kept hk3
  replace hT := hT.keep hk3
  clear hk3
  have c0 := B0.cell
  go_wp2_with fail
  refine (c_sGoalOne _ t _ hT).mono ?_; rintro e w4 ⟨rfl, hk4⟩
  replace hk0 := hk0.trans hk4
  replace B0 := B0.kept hk4
  replace hT := hT.keep hk4
  clear hk4 c0
  have HCs := Lib.hid (goalOne_cases t)
  rcases HCs.out with hneg | ⟨hok, k, hk, hx, htr⟩
  · rw [hneg]
    clear hneg
    go_wp2_with fail
    refine (c_alive _).mono ?_; rintro e w5 ⟨rfl, hk5⟩
    go_wp2_with fail
    go_ret
    exact ⟨rfl, hk0.trans hk5⟩
  · rw [hx]
    have HC : Hid (Sp.codeTruth t.goal = (p2 k)) := by show _ = _; rw [truth_codeTruth (Sp.taskOk_goal hok), htr, p2_nat]
    have hsh := bin_shl_one k (by omega)
    have hkk : ¬ (k : Int) < 0 := by omega
    have HS : Hid (∀ w', Kept w4 w' → (w'.cell? ⟨w2.heap.size, 1, none⟩ = some (.slice A1 m1 c1) ∧ Kept w4 w')) := fun w' hk => ⟨(B0.kept hk).cell 1, hk⟩
    clear hok hx htr HCs
    go_wp2_with fail
    go_region_held3 (fun w' => w'.cell? ⟨w2.heap.size, 1, none⟩ = some (.slice A1 m1 c1) ∧ Kept w4 w')
      (first | exact HS.out _ (Kept.refl _) | exact HS.out _ (Kept.refl _).drew | exact HS.out _ (Kept.trans (by assumption) hk6))
      (first | (go_at_call 54; go_split_ands; refine (c_iCodeTruth _ _ _ _ _ (hT.keep (by assumption)).goal).mono ?_; rintro e w6 ⟨rfl, hk6⟩; rw [HC.out]))
    all_goals
      go_split_ands
      go_wp2_with fail
      go_ret
      exact ⟨rfl, hk0.trans (by assumption)⟩

end Go.Proofs.Ytfbpcbjlogdflaa
