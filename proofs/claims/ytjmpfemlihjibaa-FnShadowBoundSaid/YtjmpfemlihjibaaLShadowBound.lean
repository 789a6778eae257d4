/- The law FnShadowBound, walked. No condition. -/
import Derived.Test.YtjmpfemlihjibaaD12
import Derived.Test.YtjmpfemlihjibaaG17
import Derived.Test.YtjmpfemlihjibaaG31
import Derived.Test.YtjmpfemlihjibaaG21
import Derived.Test.YtjmpfemlihjibaaA1
import Derived.Test.YtjmpfemlihjibaaRowB
namespace Go.Proofs.Ytjmpfemlihjibaa
open Go.RowKit

theorem shadowBound_yes {t : Sp.Task} {f : Nat} (h : Sp.taskOk t = true) (hf : f < 32) : Sp.shadowBound t (f : Int) = Sp.shade t f t.start.toNat := by
  unfold Sp.shadowBound
  rw [if_pos ⟨h, by unfold Sp.stOk; simp; omega⟩, Int.toNat_natCast]; rfl
theorem shadowBound_no {t : Sp.Task} {q : Int} (h : ¬ (Sp.taskOk t = true ∧ 0 ≤ q ∧ q ≤ 31)) : Sp.shadowBound t q = -1 := by
  unfold Sp.shadowBound
  rw [if_neg]
  rintro ⟨h1, h2⟩
  unfold Sp.stOk at h2
  simp only [decide_eq_true_eq] at h2
  exact h ⟨h1, by omega, by omega⟩
theorem shadow_plan {t : Sp.Task} (f : Nat) (h : Sp.planThere t = true) : 0 ≤ Sp.shade t f t.start.toNat ∧ Sp.shade t f t.start.toNat ≤ (Sp.planFor t).length := by
  obtain ⟨hok, h1, h2, _⟩ := planFor_on h
  have := shade_toGo t f (start_lt hok) h2
  omega
theorem shadow_none {t : Sp.Task} (h : Sp.taskOk t = true) : Sp.shade t 0 t.start.toNat = 0 ↔ 0 < Sp.codeTruth t.goal := by
  rw [shade_none (start_lt h)]
  unfold Sp.codeTruth
  rw [if_pos (Sp.taskOk_goal h)]
  omega

set_option maxHeartbeats 1000000 in
set_option maxRecDepth 100000 in
theorem l_ShadowBoundFn (A : Option Addr) (n c : Nat) (w : World) (h : BytesV w A n ∧ n ≤ c ∧ c ≤ maxLen) : Calls Try.prog 8 #[.slice A n c] w (RetK (.bool true) w) := by
  by_cases hn : 1048576 < n
  · have hn1 : (1048576 : Int) < (n : Int) := by omega
    go_enter Try.func8, Try.ntmps8
    go_wp2_with fail
    go_ret
    exact ⟨rfl, Kept.refl _⟩
  have hn1 : ¬ (1048576 : Int) < (n : Int) := by omega
  go_enter Try.func8, Try.ntmps8
  go_wp2_with fail
  refine (c_drawShadowBound A n c w h).mono ?_; rintro e w2 ⟨v, rfl, ⟨tv, q, rfl, hTQ, hq0, hq1⟩, hk2⟩
  obtain ⟨t, hTV, _⟩ := hTQ.task
  obtain ⟨A1, m1, c1, A2, m2, c2, rfl⟩ := hTV.form
  have hk0 := hk2.alloc (.cells #[.int .i64 t.start, .slice A1 m1 c1, .slice A2 m2 c2] 26)
  have hT := hTV.keep ((Kept.refl w2).alloc (.cells #[.int .i64 t.start, .slice A1 m1 c1, .slice A2 m2 c2] 26))
  have B0 := Blk.new w2 26 #[.int .i64 t.start, .slice A1 m1 c1, .slice A2 m2 c2]
  clear hk2 hTV hTQ
  go_wp2_with fail
  refine (c_iShadowBound _ t q _ hT).mono ?_; rintro e w3 ⟨rfl, hk3⟩
  replace hk0 := hk0.trans hk3
  replace B0 := B0.kept hk3
  replace hT := hT.keep hk3
  clear hk3
  have c0 := B0.cell
  go_wp2_with fail
  refine (c_sShadowBound _ t q _ hT).mono ?_; rintro e w4 ⟨rfl, hk4⟩
  replace hk0 := hk0.trans hk4
  replace B0 := B0.kept hk4
  replace hT := hT.keep hk4
  clear hk4 c0
  have c0 := B0.cell
  go_wp2_with fail
  refine (c_sTaskValid _ t _ hT).mono ?_; rintro e w5 ⟨rfl, hk5⟩
  replace hk0 := hk0.trans hk5
  replace B0 := B0.kept hk5
  replace hT := hT.keep hk5
  clear hk5 c0
  by_cases hv : ¬ (Sp.taskOk t = true ∧ 0 ≤ q ∧ q ≤ 31)
  · have HE := Lib.hid (shadowBound_no hv)
    rw [HE.out]
    cases ht : Sp.taskOk t
    · clear hv ht
      go_wp2_with fail
      refine (c_alive _).mono ?_; rintro e w6 ⟨rfl, hk6⟩
      go_wp2_with fail
      go_ret
      exact ⟨rfl, hk0.trans hk6⟩
    · by_cases hq2 : q < 0
      · clear hv ht
        go_wp2_with fail
        refine (c_alive _).mono ?_; rintro e w6 ⟨rfl, hk6⟩
        go_wp2_with fail
        go_ret
        exact ⟨rfl, hk0.trans hk6⟩
      · have hq3 : 31 < q := by
          refine Int.not_le.1 fun h => hv ⟨ht, by omega, h⟩
        clear hv ht
        go_wp2_with fail
        refine (c_alive _).mono ?_; rintro e w6 ⟨rfl, hk6⟩
        go_wp2_with fail
        go_ret
        exact ⟨rfl, hk0.trans hk6⟩
  obtain ⟨ht, hq2, hq3⟩ := Classical.not_not.1 hv
  obtain ⟨f, rfl⟩ := Int.eq_ofNat_of_zero_le hq2
  have hf : f < 32 := by omega
  have HE := Lib.hid (shadowBound_yes ht hf)
  have HE0 := Lib.hid (shadowBound_yes (f := 0) ht (by omega))
  have HPl := Lib.hid (fun h => @shadow_plan t f h)
  have HNo := Lib.hid (shadow_none ht)
  have HK := Lib.hid ht
  rw [HE.out, HK.out]
  obtain ⟨x, HX⟩ : ∃ x, Hid (Sp.shade t f t.start.toNat = x) := ⟨_, rfl⟩
  obtain ⟨y, HY⟩ : ∃ y, Hid (Sp.shade t 0 t.start.toNat = y) := ⟨_, rfl⟩
  obtain ⟨p, HP⟩ : ∃ p, Hid (Sp.planThere t = p) := ⟨_, rfl⟩
  obtain ⟨T, HTr⟩ : ∃ T, Hid (Sp.codeTruth t.goal = T) := ⟨_, rfl⟩
  rw [HX.out] at HPl ⊢
  rw [HY.out] at HE0
  rw [HY.out, HTr.out] at HNo
  rw [HP.out] at HPl
  have hq4 : ¬ (f : Int) < 0 := by omega
  have hq5 : ¬ (31 : Int) < (f : Int) := by omega
  clear ht HE hq2 hq3 hq0 hq1
  have c0 := B0.cell
  go_wp2_with fail
  refine (c_iPlanFor _ t _ hT).mono ?_; rintro e w6 ⟨v, rfl, ⟨A3, c3, rfl, _⟩, hk6⟩
  rw [HP.out]
  obtain ⟨l, HLp⟩ : ∃ l, Hid (Sp.planFor t = l) := ⟨_, rfl⟩
  rw [HLp.out] at HPl ⊢
  replace hk0 := hk0.trans hk6
  replace B0 := B0.kept hk6
  replace hT := hT.keep hk6
  clear hk6 c0
  have c0 := B0.cell
  go_wp2_with fail
  refine (c_iShadowBound _ t 0 _ hT).mono ?_; rintro e w7 ⟨rfl, hk7⟩
  rw [show Sp.shadowBound t 0 = y from HE0.out]
  replace hk0 := hk0.trans hk7
  replace B0 := B0.kept hk7
  replace hT := hT.keep hk7
  clear hk7 c0
  have c0 := B0.cell
  have hG := hT.goal
  have hn2 := HNo.out
  cases p
  · by_cases hy : y = 0
    · have hy2 : 0 < T := hn2.1 hy
      subst hy
      clear hn2
      go_wp2_with fail
      refine (c_iCodeTruth _ _ _ _ _ hG).mono ?_; rintro e w8 ⟨rfl, hk8⟩
      rw [HTr.out]
      go_wp2_with fail
      go_ret
      exact ⟨rfl, hk0.trans hk8⟩
    · have hy2 : ¬ 0 < T := fun h => hy (hn2.2 h)
      have hy3 : (y == 0) = false := beq_eq_false_iff_ne.2 hy
      clear hn2
      go_wp2_with fail
      refine (c_iCodeTruth _ _ _ _ _ hG).mono ?_; rintro e w8 ⟨rfl, hk8⟩
      rw [HTr.out]
      go_wp2_with fail
      go_ret
      refine ⟨?_, hk0.trans hk8⟩
      show Ending.returned (.bool (!decide (0 < T))) = _
      rw [decide_eq_false (by omega)]
      rfl
  · obtain ⟨hx0, hx1⟩ := HPl.out rfl
    by_cases hy : y = 0
    · have hy2 : 0 < T := hn2.1 hy
      subst hy
      clear hn2
      go_wp2_with fail
      refine (c_iCodeTruth _ _ _ _ _ hG).mono ?_; rintro e w8 ⟨rfl, hk8⟩
      rw [HTr.out]
      go_wp2_with fail
      go_ret
      exact ⟨rfl, hk0.trans hk8⟩
    · have hy2 : ¬ 0 < T := fun h => hy (hn2.2 h)
      have hy3 : (y == 0) = false := beq_eq_false_iff_ne.2 hy
      clear hn2
      go_wp2_with fail
      refine (c_iCodeTruth _ _ _ _ _ hG).mono ?_; rintro e w8 ⟨rfl, hk8⟩
      rw [HTr.out]
      go_wp2_with fail
      go_ret
      refine ⟨?_, hk0.trans hk8⟩
      show Ending.returned (.bool (!decide (0 < T))) = _
      rw [decide_eq_false (by omega)]
      rfl

end Go.Proofs.Ytjmpfemlihjibaa
