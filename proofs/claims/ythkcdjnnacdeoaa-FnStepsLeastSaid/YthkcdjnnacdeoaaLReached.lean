/- The law FnReached, walked. No condition. -/
import Derived.Test.YthkcdjnnacdeoaaLLeadsTo
import Derived.Test.YthkcdjnnacdeoaaTake
import Derived.Test.YthkcdjnnacdeoaaA4
namespace Go.Proofs.Ythkcdjnnacdeoaa
open Go.RowKit

theorem start_reached {t : Sp.Task} (_h : Sp.taskOk t = true) : (Sp.reachedN t).testBit t.start.toNat = true :=
  Sp.rch_mono (n := 0) (Nat.zero_le _) _ (by show (2 ^ t.start.toNat).testBit t.start.toNat = true; rw [Nat.testBit_two_pow]; simp)
theorem reached_meet {t : Sp.Task} (h : Sp.taskOk t = true) : decide ((0 : Int) < ((Sp.reachedN t &&& Sp.truth t.goal : Nat) : Int)) = (Sp.leadsN t).testBit t.start.toNat := by
  have h1 := meet_all (Sp.rel t) (start_lt h) (truth_bd t.goal)
  rw [Bool.eq_iff_iff, decide_eq_true_eq]
  refine Iff.trans ?_ h1
  have h2 := and_pos (a := Sp.reachedN t) (b := Sp.truth t.goal) (reachedN_lt h)
  exact Iff.trans (by omega) h2

set_option maxHeartbeats 1000000 in
set_option maxRecDepth 100000 in
theorem l_Reached (A : Option Addr) (n c : Nat) (w : World) (h : BytesV w A n ∧ n ≤ c ∧ c ≤ maxLen) : Calls Try.prog 4 #[.slice A n c] w (RetK (.bool true) w) := by
  by_cases hn : 1048576 < n
  · have hn1 : (1048576 : Int) < (n : Int) := by omega
    go_enter Try.func4, Try.ntmps4
    go_wp2_with fail
    go_ret
    exact ⟨rfl, Kept.refl _⟩
  have hn1 : ¬ (1048576 : Int) < (n : Int) := by omega
  go_enter Try.func4, Try.ntmps4
  go_wp2_with fail
  refine (c_drawReached A n c w h).mono ?_; rintro e w2 ⟨tv, rfl, ⟨t, hTV⟩, hk2⟩
  obtain ⟨A1, m1, c1, A2, m2, c2, rfl⟩ := hTV.form
  have hk0 := hk2.alloc (.cells #[.int .i64 t.start, .slice A1 m1 c1, .slice A2 m2 c2] 26)
  have hT := hTV.keep ((Kept.refl w2).alloc (.cells #[.int .i64 t.start, .slice A1 m1 c1, .slice A2 m2 c2] 26))
  have B0 := Blk.new w2 26 #[.int .i64 t.start, .slice A1 m1 c1, .slice A2 m2 c2]
  clear hk2 hTV
  go_wp2_with fail
  refine (c_iReached _ t _ hT).mono ?_; rintro e w3 ⟨rfl, hk3⟩
  replace hk0 := hk0.trans hk3
  replace B0 := B0.kept hk3
  replace hT := hT.keep hk3
  clear hk3
  have c0 := B0.cell
  go_wp2_with fail
  refine (c_sReached _ t _ hT).mono ?_; rintro e w4 ⟨rfl, hk4⟩
  replace hk0 := hk0.trans hk4
  replace B0 := B0.kept hk4
  replace hT := hT.keep hk4
  clear hk4 c0
  have HCs := Lib.hid (reached_cases t)
  rcases HCs.out with ⟨hok, hneg⟩ | ⟨hok, hx⟩
  · rw [hneg]
    have HK := Lib.hid hok
    clear hneg hok
    have c0 := B0.cell
    go_wp2_with fail
    refine (c_iTaskValid _ t _ hT).mono ?_; rintro e w5 ⟨rfl, hk5⟩
    rw [HK.out]
    go_wp2_with fail
    refine (c_alive _).mono ?_; rintro e w6 ⟨rfl, hk6⟩
    go_wp2_with fail
    go_ret
    exact ⟨rfl, (hk0.trans hk5).trans hk6⟩
  · rw [hx]
    have HK := Lib.hid hok
    have hll := reachedN_lt hok
    have hsl := start_lt hok
    have HN := Lib.hid (statesNext_nat HK.out hll)
    have HA1 := Lib.hid (show Sp.img (Sp.rel t) (Sp.reachedN t) &&& Sp.reachedN t = Sp.img (Sp.rel t) (Sp.reachedN t) from all_img (start_set hok))
    have HC : Hid (Sp.codeTruth t.goal = (Sp.truth t.goal : Nat)) := by show _ = _; exact truth_codeTruth (Sp.taskOk_goal hok)
    have HLd : Hid (Sp.leadsTo t = (Sp.leadsN t : Nat)) := by show _ = _; unfold Sp.leadsTo; rw [if_pos hok]
    have hbs := start_reached hok
    have HM := Lib.hid (reached_meet hok)
    obtain ⟨hs0, hs1⟩ := Sp.taskOk_start hok
    obtain ⟨st, hst⟩ := Int.eq_ofNat_of_zero_le hs0
    have hgl := truth_bd t.goal
    have hil := Sp.img_lt (Sp.rel t) (Sp.reachedN t)
    have hll2 := leadsN_lt t
    rw [hst, Int.toNat_natCast] at hsl hbs HM
    rw [hst] at B0



    clear hok hx HCs hs0 hs1
    generalize Sp.reachedN t = L at *
    generalize Sp.img (Sp.rel t) L = I at *
    generalize Sp.truth t.goal = G at *
    generalize Sp.leadsN t = D at *
    have c0 := B0.cell
    have hG := hT.goal
    have hT' : TaskV w4 (Value.agg #[.int .i64 (st : Int), .slice A1 m1 c1, .slice A2 m2 c2]) t := by rw [← hst]; exact hT
    clear hT
    go_wp2_with fail
    refine (c_iStatesNext _ t (L : Int) _ hT').mono ?_; rintro e w5 ⟨rfl, hk5⟩
    rw [HN.out]
    replace hk0 := hk0.trans hk5
    replace B0 := B0.kept hk5
    have hT := hT'.keep hk5
    replace hG := hG.keep hk5
    clear hk5 c0 hT' hst
    have c0 := B0.cell
    have hb1 : ((L : Int) / 2 ^ st).tmod 2 = 1 := by rw [tmod_bit, hbs]; rfl
    go_wp2_with fail
    obtain ⟨P, HP⟩ : ∃ P, Hid (L &&& G = P) := ⟨_, rfl⟩
    rw [HP.out] at HM
    have hb2 := tmod_bit D st
    have HM2 := HM.out
    have HS : Hid (∀ w', Kept w5 w' → (w'.cell? ⟨w2.heap.size, 0, none⟩ = some (.int .i64 st) ∧ w'.cell? ⟨w2.heap.size, 1, none⟩ = some (.slice A1 m1 c1) ∧ w'.cell? ⟨w2.heap.size, 2, none⟩ = some (.slice A2 m2 c2) ∧ Kept w5 w')) := fun w' hk => ⟨(B0.kept hk).cell 0, (B0.kept hk).cell 1, (B0.kept hk).cell 2, hk⟩
    clear HM c0 hbs
    cases hD : D.testBit st
    all_goals
      rw [hD] at hb2 HM2
      clear hD
      first
        | (have hP : ¬ (0 : Int) < (P : Int) := of_decide_eq_false HM2)
        | (have hP : (0 : Int) < (P : Int) := of_decide_eq_true HM2)
      clear HM2
      go_region_held3 (fun w' => w'.cell? ⟨w2.heap.size, 0, none⟩ = some (.int .i64 st) ∧ w'.cell? ⟨w2.heap.size, 1, none⟩ = some (.slice A1 m1 c1) ∧ w'.cell? ⟨w2.heap.size, 2, none⟩ = some (.slice A2 m2 c2) ∧ Kept w5 w')
        (first | exact HS.out _ (Kept.refl _) | exact HS.out _ (Kept.refl _).drew | exact HS.out _ (Kept.trans (by assumption) hk6) | exact HS.out _ (Kept.trans (by assumption) hk7) | assumption)
        (first | (go_at_call 21; go_split_ands; refine (c_iCodeTruth _ _ _ _ _ (hG.keep (by assumption))).mono ?_; rintro e w6 ⟨rfl, hk6⟩; rw [HC.out]) | (go_at_call 17; go_split_ands; refine (c_iLeadsTo _ t _ (hT.keep (by assumption))).mono ?_; rintro e w7 ⟨rfl, hk7⟩; rw [HLd.out]) | (go_at_call 22; refine (c_lboth _ _ _ (by omega) (by omega)).mono ?_; rintro e w8 ⟨rfl, rfl⟩; (first | rw [HA1.out] | rw [HP.out])))
      all_goals
        go_split_ands
        go_wp2_with fail
        go_ret
        exact ⟨ret_bool (by simp; omega), hk0.trans (by assumption)⟩

end Go.Proofs.Ythkcdjnnacdeoaa
