/- The laws FnLeadsTo and FnReached, walked. No condition. -/
import Derived.Test.YthkcdjnnacdeoaaD11
import Derived.Test.YthkcdjnnacdeoaaG25
import Derived.Test.YthkcdjnnacdeoaaA1
import Derived.Test.YthkcdjnnacdeoaaRowB
namespace Go.Proofs.Ythkcdjnnacdeoaa
open Go.RowKit

theorem leadsTo_cases (t : Sp.Task) : Sp.leadsTo t = -1 ∨ (Sp.taskOk t = true ∧ Sp.leadsTo t = (Sp.leadsN t : Nat)) := by
  unfold Sp.leadsTo
  by_cases h : Sp.taskOk t = true
  · exact .inr ⟨h, by rw [if_pos h]⟩
  · exact .inl (by rw [if_neg h])
theorem reached_cases (t : Sp.Task) : (Sp.taskOk t = false ∧ Sp.reached t = -1) ∨ (Sp.taskOk t = true ∧ Sp.reached t = (Sp.reachedN t : Nat)) := by
  unfold Sp.reached
  cases h : Sp.taskOk t
  · exact .inl ⟨rfl, by simp⟩
  · exact .inr ⟨rfl, by simp⟩

set_option maxHeartbeats 1000000 in
set_option maxRecDepth 100000 in
theorem l_LeadsTo (A : Option Addr) (n c : Nat) (w : World) (h : BytesV w A n ∧ n ≤ c ∧ c ≤ maxLen) : Calls Try.prog 3 #[.slice A n c] w (RetK (.bool true) w) := by
  by_cases hn : 1048576 < n
  · have hn1 : (1048576 : Int) < (n : Int) := by omega
    go_enter Try.func3, Try.ntmps3
    go_wp2_with fail
    go_ret
    exact ⟨rfl, Kept.refl _⟩
  have hn1 : ¬ (1048576 : Int) < (n : Int) := by omega
  go_enter Try.func3, Try.ntmps3
  go_wp2_with fail
  refine (c_drawLeadsTo A n c w h).mono ?_; rintro e w2 ⟨tv, rfl, ⟨t, hTV⟩, hk2⟩
  obtain ⟨A1, m1, c1, A2, m2, c2, rfl⟩ := hTV.form
  have hk0 := hk2.alloc (.cells #[.int .i64 t.start, .slice A1 m1 c1, .slice A2 m2 c2] 26)
  have hT := hTV.keep ((Kept.refl w2).alloc (.cells #[.int .i64 t.start, .slice A1 m1 c1, .slice A2 m2 c2] 26))
  have B0 := Blk.new w2 26 #[.int .i64 t.start, .slice A1 m1 c1, .slice A2 m2 c2]
  clear hk2 hTV
  go_wp2_with fail
  refine (c_iLeadsTo _ t _ hT).mono ?_; rintro e w3 ⟨rfl, hk3⟩
  replace hk0 := hk0.trans hk3
  replace B0 := B0.kept hk3
  replace hT := hT.keep hk3
  clear hk3
  have c0 := B0.cell
  go_wp2_with fail
  refine (c_sLeadsTo _ t _ hT).mono ?_; rintro e w4 ⟨rfl, hk4⟩
  replace hk0 := hk0.trans hk4
  replace B0 := B0.kept hk4
  replace hT := hT.keep hk4
  clear hk4 c0
  have HCs := Lib.hid (leadsTo_cases t)
  rcases HCs.out with hneg | ⟨hok, hx⟩
  · rw [hneg]
    clear hneg
    go_wp2_with fail
    refine (c_alive _).mono ?_; rintro e w5 ⟨rfl, hk5⟩
    go_wp2_with fail
    go_ret
    exact ⟨rfl, hk0.trans hk5⟩
  · rw [hx]
    have HK := Lib.hid hok
    have hll := leadsN_lt t
    have HN := Lib.hid (statesBack_nat HK.out hll)
    have HA1 := Lib.hid (show Sp.img (Sp.relB t) (Sp.leadsN t) &&& Sp.leadsN t = Sp.img (Sp.relB t) (Sp.leadsN t) from all_img (truth_bd _))
    have HA2 := Lib.hid (show Sp.truth t.goal &&& Sp.leadsN t = Sp.truth t.goal from all_from (truth_bd _) 32)
    have HC : Hid (Sp.codeTruth t.goal = (Sp.truth t.goal : Nat)) := by show _ = _; exact truth_codeTruth (Sp.taskOk_goal hok)
    have hgl := truth_bd t.goal
    have hil := Sp.img_lt (Sp.relB t) (Sp.leadsN t)
    clear hok hx HCs
    generalize Sp.leadsN t = L at *
    generalize Sp.img (Sp.relB t) L = I at *
    generalize Sp.truth t.goal = G at *
    have c0 := B0.cell
    go_wp2_with fail
    refine (c_iStatesBack _ t (L : Int) _ hT).mono ?_; rintro e w5 ⟨rfl, hk5⟩
    rw [HN.out]
    replace hk0 := hk0.trans hk5
    replace B0 := B0.kept hk5
    replace hT := hT.keep hk5
    clear hk5 c0
    have c0 := B0.cell
    go_wp2_with fail
    refine (c_iCodeTruth _ _ _ _ _ hT.goal).mono ?_; rintro e w6 ⟨rfl, hk6⟩
    rw [HC.out]
    go_wp2_with (first | (go_at_call 22; refine (c_lboth _ _ _ (by omega) (by omega)).mono ?_; rintro e w8 ⟨rfl, rfl⟩; (first | rw [HA1.out] | rw [HA2.out])))
    go_ret
    exact ⟨rfl, hk0.trans hk6⟩

end Go.Proofs.Ythkcdjnnacdeoaa
