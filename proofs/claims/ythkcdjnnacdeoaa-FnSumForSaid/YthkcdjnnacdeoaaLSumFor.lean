/- The law FnSumFor, walked. No condition. -/
import Derived.Test.YthkcdjnnacdeoaaD11
import Derived.Test.YthkcdjnnacdeoaaG28
import Derived.Test.YthkcdjnnacdeoaaG21
import Derived.Test.YthkcdjnnacdeoaaR7i
import Derived.Test.YthkcdjnnacdeoaaR6i
import Derived.Test.YthkcdjnnacdeoaaA1
import Derived.Test.YthkcdjnnacdeoaaRowB
import Derived.Test.YthkcdjnnacdeoaaLGoalOne
namespace Go.Proofs.Ythkcdjnnacdeoaa
open Go.RowKit

set_option maxHeartbeats 1000000 in
set_option maxRecDepth 100000 in
theorem l_SumForFn (A : Option Addr) (n c : Nat) (w : World) (h : BytesV w A n ∧ n ≤ c ∧ c ≤ maxLen) : Calls Try.prog 12 #[.slice A n c] w (RetK (.bool true) w) := by
  by_cases hn : 1048576 < n
  · have hn1 : (1048576 : Int) < (n : Int) := by omega
    go_enter Try.func12, Try.ntmps12
    go_wp2_with fail
    go_ret
    exact ⟨rfl, Kept.refl _⟩
  have hn1 : ¬ (1048576 : Int) < (n : Int) := by omega
  go_enter Try.func12, Try.ntmps12
  go_wp2_with fail
  refine (c_drawSumFor A n c w h).mono ?_; rintro e w2 ⟨tv, rfl, ⟨t, hTV⟩, hk2⟩
  obtain ⟨A1, m1, c1, A2, m2, c2, rfl⟩ := hTV.form
  have hk0 := hk2.alloc (.cells #[.int .i64 t.start, .slice A1 m1 c1, .slice A2 m2 c2] 26)
  have hT := hTV.keep ((Kept.refl w2).alloc (.cells #[.int .i64 t.start, .slice A1 m1 c1, .slice A2 m2 c2] 26))
  have B0 := Blk.new w2 26 #[.int .i64 t.start, .slice A1 m1 c1, .slice A2 m2 c2]
  clear hk2 hTV
  go_wp2_with fail
  refine (c_iSumFor _ t _ hT).mono ?_; rintro e w3 ⟨rfl, hk3⟩
  replace hk0 := hk0.trans hk3
  replace B0 := B0.kept hk3
  replace hT := hT.keep hk3
  clear hk3
  have c0 := B0.cell
  go_wp2_with fail
  refine (c_sSumFor _ t _ hT).mono ?_; rintro e w4 ⟨rfl, hk4⟩
  replace hk0 := hk0.trans hk4
  replace B0 := B0.kept hk4
  replace hT := hT.keep hk4
  clear hk4 c0
  have c0 := B0.cell
  have HSf := Lib.hid (sumFor_some (t := t))
  have HSp := Lib.hid (fun (hok : Sp.onlyTurns t = true) (g : Nat) (hg : g < 32) (h : Sp.truth t.goal = 2 ^ g) => sum_or_plan hok hg h)
  have HGc := Lib.hid (goalOne_cases t)
  rcases HSf.out with ⟨hb, f, hf, hN, hS⟩ | ⟨hb, hN, _⟩
  · have hp := sumOk_none hS
    have hot := (sumOk_parts hS).1
    have HB := Lib.hid hb
    have HN := Lib.hid hN
    have HS := Lib.hid hS
    have HP := Lib.hid hp
    have HT := Lib.hid hot
    rw [hb, hN]
    clear hb hN hS hp hot HSf HSp
    go_wp2_with fail
    refine (c_iPlanFor _ t _ hT).mono ?_; rintro e w5 ⟨v, rfl, ⟨A3, c3, rfl, _⟩, hk5⟩
    rw [HP.out]
    replace hk0 := hk0.trans hk5
    replace B0 := B0.kept hk5
    replace hT := hT.keep hk5
    clear hk5 c0
    have c0 := B0.cell
    go_wp2_with fail
    refine (c_iSumOk _ t (f : Int) _ hT).mono ?_; rintro e w6 ⟨rfl, hk6⟩
    rw [HS.out]
    replace hk0 := hk0.trans hk6
    replace B0 := B0.kept hk6
    replace hT := hT.keep hk6
    clear hk6 c0
    have c0 := B0.cell
    go_wp2_with fail
    refine (c_iOnlyTurns _ t _ hT).mono ?_; rintro e w7 ⟨rfl, hk7⟩
    rw [HT.out]
    replace hk0 := hk0.trans hk7
    replace B0 := B0.kept hk7
    replace hT := hT.keep hk7
    clear hk7 c0
    have c0 := B0.cell
    go_wp2_with fail
    refine (c_iGoalOne _ t _ hT).mono ?_; rintro e w8 ⟨rfl, hk8⟩
    replace hk0 := hk0.trans hk8
    clear hk8 c0 hT
    generalize Sp.goalOne t = q at *
    by_cases hq : q < 0
    all_goals
      go_wp2_with fail
      refine (c_alive _).mono ?_; rintro e w9 ⟨rfl, hk9⟩
      go_wp2_with fail
      go_ret
      exact ⟨rfl, hk0.trans hk9⟩
  · have HB := Lib.hid hb
    rw [hb, hN]
    clear hb hN HSf
    go_wp2_with fail
    refine (c_iPlanFor _ t _ hT).mono ?_; rintro e w5 ⟨v, rfl, ⟨A3, c3, rfl, _⟩, hk5⟩
    replace hk0 := hk0.trans hk5
    replace B0 := B0.kept hk5
    replace hT := hT.keep hk5
    clear hk5 c0
    have c0 := B0.cell
    obtain ⟨p, HP⟩ : ∃ p, Hid (Sp.planThere t = p) := ⟨_, rfl⟩
    rw [HP.out] at HSp ⊢
    rw [HB.out] at HSp
    go_wp2_with fail
    refine (c_iOnlyTurns _ t _ hT).mono ?_; rintro e w7 ⟨rfl, hk7⟩
    replace hk0 := hk0.trans hk7
    replace B0 := B0.kept hk7
    replace hT := hT.keep hk7
    clear hk7 c0
    have c0 := B0.cell
    cases ho : Sp.onlyTurns t
    · clear ho HSp
      go_wp2_with fail
      refine (c_alive _).mono ?_; rintro e w9 ⟨rfl, hk9⟩
      go_wp2_with fail
      go_ret
      exact ⟨rfl, hk0.trans hk9⟩
    · have HSp2 := Lib.hid (HSp.out ho)
      clear ho HSp
      go_wp2_with fail
      refine (c_iGoalOne _ t _ hT).mono ?_; rintro e w8 ⟨rfl, hk8⟩
      replace hk0 := hk0.trans hk8
      clear hk8 c0 hT
      rcases HGc.out with hq | ⟨_, k, hk, hx, htr⟩
      · rw [hq]
        clear hq HSp2 HGc
        go_wp2_with fail
        refine (c_alive _).mono ?_; rintro e w9 ⟨rfl, hk9⟩
        go_wp2_with fail
        go_ret
        exact ⟨rfl, hk0.trans hk9⟩
      · have hpt : p = true := HSp2.out k hk htr
        rw [hx]
        subst hpt
        have hkk : ¬ (k : Int) < 0 := by omega
        clear hx htr HSp2 HGc HP
        go_wp2_with fail
        refine (c_alive _).mono ?_; rintro e w9 ⟨rfl, hk9⟩
        go_wp2_with fail
        go_ret
        exact ⟨rfl, hk0.trans hk9⟩

end Go.Proofs.Ythkcdjnnacdeoaa
