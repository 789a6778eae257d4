/- The law FnNumbersOk, walked. No condition. -/
import Derived.Test.YtphdojebdclonaaDoorD14
import Derived.Test.YtphdojebdclonaaDoorG33
import Derived.Test.YtphdojebdclonaaDoorG34
import Derived.Test.YtphdojebdclonaaDoorG21
import Derived.Test.YtphdojebdclonaaDoorA1
import Derived.Test.YtphdojebdclonaaDoorA5
import Derived.Test.YtphdojebdclonaaDoorRowB
namespace Go.Proofs.YtphdojebdclonaaDoor
open Go.RowKit

set_option maxHeartbeats 1000000 in
set_option maxRecDepth 100000 in
theorem l_NumbersOkFn (A : Option Addr) (n c : Nat) (w : World) (h : BytesV w A n ∧ n ≤ c ∧ c ≤ maxLen) (hg : ErrG w) : Calls Tryd.prog 3 #[.slice A n c] w (RetK (.bool true) w) := by
  by_cases hn : 1048576 < n
  · have hn1 : (1048576 : Int) < (n : Int) := by omega
    clear hg
    go_enter Tryd.func3, Tryd.ntmps3
    go_wp2_with fail
    go_ret
    exact ⟨rfl, Kept.refl _⟩
  have hn1 : ¬ (1048576 : Int) < (n : Int) := by omega
  have HG := Lib.hid hg
  clear hg
  go_enter Tryd.func3, Tryd.ntmps3
  go_wp2_with fail
  refine (c_drawNumbersOk A n c w h).mono ?_; rintro e w2 ⟨v, rfl, ⟨tv, t, A3, n3, c3, l, rfl, hTV, hL⟩, hk2⟩
  obtain ⟨A1, m1, c1, A2, m2, c2, rfl⟩ := hTV.form
  have hk0 := hk2.alloc (.cells #[.int .i64 t.start, .slice A1 m1 c1, .slice A2 m2 c2] 26)
  have hT := hTV.keep ((Kept.refl w2).alloc (.cells #[.int .i64 t.start, .slice A1 m1 c1, .slice A2 m2 c2] 26))
  replace hL := hL.keep ((Kept.refl w2).alloc (.cells #[.int .i64 t.start, .slice A1 m1 c1, .slice A2 m2 c2] 26))
  have B0 := Blk.new w2 26 #[.int .i64 t.start, .slice A1 m1 c1, .slice A2 m2 c2]
  clear hk2 hTV
  go_wp2_with fail
  refine (c_iNumbersOk _ t _ _ _ l _ hT hL (HG.out.keep hk0)).mono ?_; rintro e w3 ⟨rfl, hk3⟩
  replace hk0 := hk0.trans hk3
  replace B0 := B0.kept hk3
  replace hT := hT.keep hk3
  replace hL := hL.keep hk3
  clear hk3
  have c0 := B0.cell
  go_wp2_with fail
  refine (c_sNumbersOk _ t _ _ _ l _ hT hL).mono ?_; rintro e w4 ⟨rfl, hk4⟩
  replace hk0 := hk0.trans hk4
  replace B0 := B0.kept hk4
  replace hT := hT.keep hk4
  replace hL := hL.keep hk4
  clear hk4 c0
  have c0 := B0.cell
  cases hok : Sp.numbersOk t l
  · clear hok
    go_wp2_with fail
    refine (c_alive _).mono ?_; rintro e w6 ⟨rfl, hk6⟩
    go_wp2_with fail
    go_ret
    exact ⟨rfl, hk0.trans hk6⟩
  obtain ⟨ht, hlen, _, _⟩ := numbersOk_parts hok
  have HLe := Lib.hid (fun s (hs : s < 32) (h0 : 0 ≤ Sp.toGo t s) => numbersOk_le hok hs h0)
  obtain rfl : n3 = 32 := by rw [← hL.len]; exact hlen
  obtain ⟨b, off, rfl, hN⟩ := numRow_of hL
  have HL2 : Hid ((Sp.stepsLeast t).length = 32) := by show _ = _; rw [stepsLeast_ok ht, distList_len]
  have HK := Lib.hid ht
  have HOn := Lib.hid (fun (h : Sp.planThere t = true) => planFor_on h)
  have hst := start_lt ht
  have hs0 : 0 ≤ t.start := (Sp.taskOk_start ht).1
  clear hok ht hlen hL
  go_wp2_with fail
  refine (c_iStepsLeast _ t _ hT).mono ?_; rintro e w6 ⟨v, rfl, hS, hk6⟩
  obtain ⟨g2, c5, rfl, hg2, hO2⟩ := outInts_row hS HL2.out
  have hR := hO2.toGo HK.out
  have HGo := Lib.hid (show ∀ s, Sp.dist (Sp.relB t) (Sp.truth t.goal) s = Sp.toGo t s from fun _ => rfl)
  replace hR := hR.congr (f' := Sp.toGo t) fun s _ => HGo.out s
  replace hk0 := hk0.trans hk6
  replace B0 := B0.kept hk6
  replace hT := hT.keep hk6
  replace hN := hN.keep hk6
  clear hk6 c0 hS hO2
  go_wp2_with fail
  go_loopw [7] (fun i wr => ∃ j : Nat, j ≤ 32 ∧ i = .int .i64 j ∧ Kept w6 wr) (fun i _ => 32 - (intOf i).toNat)
  case atStart => exact ⟨0, by omega, rfl, Kept.refl _⟩
  case round =>
    obtain ⟨j, hj, rfl, hkp⟩ := hrel
    by_cases hlt : j < 32
    · have hle := HLe.out j hlt
      have cy := (hR.keep hkp.drew).2.2 j hlt
      have cx := (hN.keep hkp.drew).2 j hlt
      obtain ⟨x, HX⟩ : ∃ x, Hid (Sp.numAt l j = x) := ⟨_, rfl⟩
      obtain ⟨y, HY⟩ : ∃ y, Hid (Sp.toGo t j = y) := ⟨_, rfl⟩
      rw [HX.out, HY.out] at hle
      rw [HX.out] at cx
      rw [HY.out] at cy
      go_wp2_with fail
      refine wp_region_held_drew (S := fun w' => w'.cell? ⟨g2, j, none⟩ = some (.int .i64 y) ∧ w'.cell? ⟨b, off + j, none⟩ = some (.int .i64 x)) (by kernel_rfl) ⟨cy, cx⟩ (fun hHeld => ?_)
      by_cases hy : 0 ≤ y
      · have hxy : ¬ y < x := by have := hle hy; omega
        (refine take_val (i := 0) (v := .slice (some ⟨g2, 0, none⟩) 32 c5) rfl rfl (by kernel_rfl) (by kernel_rfl) (by kernel_rfl) (fun _ _ _ h => h) rfl (by intro wq hq; (try go_split_ands); go_simp; try with_reducible rfl) (hHeld) ?_; simp only [List.setIfInBounds_toArray, List.set_cons_zero, List.set_cons_succ])
        (refine take_val (i := 1) (v := .int .i64 j) rfl rfl (by kernel_rfl) (by kernel_rfl) (by kernel_rfl) (fun _ _ _ h => h) rfl (by intro wq hq; (try go_split_ands); go_simp; try with_reducible rfl) (hHeld) ?_; simp only [List.setIfInBounds_toArray, List.set_cons_zero, List.set_cons_succ])
        (refine take_val (i := 2) (v := .pointer (some ⟨g2, j, none⟩)) rfl rfl (by kernel_rfl) (by kernel_rfl) (by kernel_rfl) (fun _ _ _ h => h) rfl (by intro wq hq; (try go_split_ands); go_simp; try with_reducible rfl) (hHeld) ?_; simp only [List.setIfInBounds_toArray, List.set_cons_zero, List.set_cons_succ])
        (refine take_val (i := 3) (v := .int .i64 y) rfl rfl (by kernel_rfl) (by kernel_rfl) (by kernel_rfl) (fun _ _ _ h => h) rfl (by intro wq hq; (try go_split_ands); go_simp; try with_reducible rfl) (hHeld) ?_; simp only [List.setIfInBounds_toArray, List.set_cons_zero, List.set_cons_succ])
        (refine take_val (i := 4) (v := .bool true) rfl rfl (by kernel_rfl) (by kernel_rfl) (by kernel_rfl) (fun _ _ _ h => h) rfl (by intro wq hq; (try go_split_ands); go_simp; try with_reducible rfl) (hHeld) ?_; simp only [List.setIfInBounds_toArray, List.set_cons_zero, List.set_cons_succ])
        (refine take_val (i := 5) (v := .bool true) rfl rfl (by kernel_rfl) (by kernel_rfl) (by kernel_rfl) (fun _ _ _ h => h) rfl (by intro wq hq; (try go_split_ands); go_simp; try with_reducible rfl) (hHeld) ?_; simp only [List.setIfInBounds_toArray, List.set_cons_zero, List.set_cons_succ])
        (refine take_val (i := 6) (v := .slice (some ⟨g2, 0, none⟩) 32 c5) rfl rfl (by kernel_rfl) (by kernel_rfl) (by kernel_rfl) (fun _ _ _ h => h) rfl (by intro wq hq; (try go_split_ands); go_simp; try with_reducible rfl) (hHeld) ?_; simp only [List.setIfInBounds_toArray, List.set_cons_zero, List.set_cons_succ])
        (refine take_val (i := 7) (v := .int .i64 j) rfl rfl (by kernel_rfl) (by kernel_rfl) (by kernel_rfl) (fun _ _ _ h => h) rfl (by intro wq hq; (try go_split_ands); go_simp; try with_reducible rfl) (hHeld) ?_; simp only [List.setIfInBounds_toArray, List.set_cons_zero, List.set_cons_succ])
        (refine take_val (i := 8) (v := .pointer (some ⟨g2, j, none⟩)) rfl rfl (by kernel_rfl) (by kernel_rfl) (by kernel_rfl) (fun _ _ _ h => h) rfl (by intro wq hq; (try go_split_ands); go_simp; try with_reducible rfl) (hHeld) ?_; simp only [List.setIfInBounds_toArray, List.set_cons_zero, List.set_cons_succ])
        (refine take_val (i := 9) (v := .int .i64 y) rfl rfl (by kernel_rfl) (by kernel_rfl) (by kernel_rfl) (fun _ _ _ h => h) rfl (by intro wq hq; (try go_split_ands); go_simp; try with_reducible rfl) (hHeld) ?_; simp only [List.setIfInBounds_toArray, List.set_cons_zero, List.set_cons_succ])
        (refine take_val (i := 10) (v := .slice (some ⟨b, off, none⟩) 32 c3) rfl rfl (by kernel_rfl) (by kernel_rfl) (by kernel_rfl) (fun _ _ _ h => h) rfl (by intro wq hq; (try go_split_ands); go_simp; try with_reducible rfl) (hHeld) ?_; simp only [List.setIfInBounds_toArray, List.set_cons_zero, List.set_cons_succ])
        (refine take_val (i := 11) (v := .int .i64 j) rfl rfl (by kernel_rfl) (by kernel_rfl) (by kernel_rfl) (fun _ _ _ h => h) rfl (by intro wq hq; (try go_split_ands); go_simp; try with_reducible rfl) (hHeld) ?_; simp only [List.setIfInBounds_toArray, List.set_cons_zero, List.set_cons_succ])
        (refine take_val (i := 12) (v := .pointer (some ⟨b, off + j, none⟩)) rfl rfl (by kernel_rfl) (by kernel_rfl) (by kernel_rfl) (fun _ _ _ h => h) rfl (by intro wq hq; (try go_split_ands); go_simp; try with_reducible rfl) (hHeld) ?_; simp only [List.setIfInBounds_toArray, List.set_cons_zero, List.set_cons_succ])
        (refine take_val (i := 13) (v := .int .i64 x) rfl rfl (by kernel_rfl) (by kernel_rfl) (by kernel_rfl) (fun _ _ _ h => h) rfl (by intro wq hq; (try go_split_ands); go_simp; try with_reducible rfl) (hHeld) ?_; simp only [List.setIfInBounds_toArray, List.set_cons_zero, List.set_cons_succ])
        (refine take_val (i := 14) (v := .bool false) rfl rfl (by kernel_rfl) (by kernel_rfl) (by kernel_rfl) (fun _ _ _ h => h) rfl (by intro wq hq; (try go_split_ands); go_simp; try with_reducible rfl) (hHeld) ?_; simp only [List.setIfInBounds_toArray, List.set_cons_zero, List.set_cons_succ])
        (refine take_val (i := 15) (v := .bool false) rfl rfl (by kernel_rfl) (by kernel_rfl) (by kernel_rfl) (fun _ _ _ h => h) rfl (by intro wq hq; (try go_split_ands); go_simp; try with_reducible rfl) (hHeld) ?_; simp only [List.setIfInBounds_toArray, List.set_cons_zero, List.set_cons_succ])
        refine wpAnyH_done (by kernel_rfl) ?_ _
        clear cx cy hHeld
        go_wp2_with fail
        exact ⟨⟨j + 1, by omega, by go_num, hkp.drew⟩, by simp [intOf]; omega⟩
      · (refine take_val (i := 0) (v := .slice (some ⟨g2, 0, none⟩) 32 c5) rfl rfl (by kernel_rfl) (by kernel_rfl) (by kernel_rfl) (fun _ _ _ h => h) rfl (by intro wq hq; (try go_split_ands); go_simp; try with_reducible rfl) (hHeld) ?_; simp only [List.setIfInBounds_toArray, List.set_cons_zero, List.set_cons_succ])
        (refine take_val (i := 1) (v := .int .i64 j) rfl rfl (by kernel_rfl) (by kernel_rfl) (by kernel_rfl) (fun _ _ _ h => h) rfl (by intro wq hq; (try go_split_ands); go_simp; try with_reducible rfl) (hHeld) ?_; simp only [List.setIfInBounds_toArray, List.set_cons_zero, List.set_cons_succ])
        (refine take_val (i := 2) (v := .pointer (some ⟨g2, j, none⟩)) rfl rfl (by kernel_rfl) (by kernel_rfl) (by kernel_rfl) (fun _ _ _ h => h) rfl (by intro wq hq; (try go_split_ands); go_simp; try with_reducible rfl) (hHeld) ?_; simp only [List.setIfInBounds_toArray, List.set_cons_zero, List.set_cons_succ])
        (refine take_val (i := 3) (v := .int .i64 y) rfl rfl (by kernel_rfl) (by kernel_rfl) (by kernel_rfl) (fun _ _ _ h => h) rfl (by intro wq hq; (try go_split_ands); go_simp; try with_reducible rfl) (hHeld) ?_; simp only [List.setIfInBounds_toArray, List.set_cons_zero, List.set_cons_succ])
        (refine take_val (i := 4) (v := .bool false) rfl rfl (by kernel_rfl) (by kernel_rfl) (by kernel_rfl) (fun _ _ _ h => h) rfl (by intro wq hq; (try go_split_ands); go_simp; try with_reducible rfl) (hHeld) ?_; simp only [List.setIfInBounds_toArray, List.set_cons_zero, List.set_cons_succ])
        (refine take_val (i := 5) (v := .bool false) rfl rfl (by kernel_rfl) (by kernel_rfl) (by kernel_rfl) (fun _ _ _ h => h) rfl (by intro wq hq; (try go_split_ands); go_simp; try with_reducible rfl) (hHeld) ?_; simp only [List.setIfInBounds_toArray, List.set_cons_zero, List.set_cons_succ])
        (refine take_skip (i := 6) rfl rfl (by kernel_rfl) (by kernel_rfl) (by kernel_rfl) (fun _ _ _ h => h) rfl (hHeld) ?_; simp only [List.setIfInBounds_toArray, List.set_cons_zero, List.set_cons_succ])
        (refine take_skip (i := 7) rfl rfl (by kernel_rfl) (by kernel_rfl) (by kernel_rfl) (fun _ _ _ h => h) rfl (hHeld) ?_; simp only [List.setIfInBounds_toArray, List.set_cons_zero, List.set_cons_succ])
        (refine take_skip (i := 8) rfl rfl (by kernel_rfl) (by kernel_rfl) (by kernel_rfl) (fun _ _ _ h => h) rfl (hHeld) ?_; simp only [List.setIfInBounds_toArray, List.set_cons_zero, List.set_cons_succ])
        (refine take_skip (i := 9) rfl rfl (by kernel_rfl) (by kernel_rfl) (by kernel_rfl) (fun _ _ _ h => h) rfl (hHeld) ?_; simp only [List.setIfInBounds_toArray, List.set_cons_zero, List.set_cons_succ])
        (refine take_skip (i := 10) rfl rfl (by kernel_rfl) (by kernel_rfl) (by kernel_rfl) (fun _ _ _ h => h) rfl (hHeld) ?_; simp only [List.setIfInBounds_toArray, List.set_cons_zero, List.set_cons_succ])
        (refine take_skip (i := 11) rfl rfl (by kernel_rfl) (by kernel_rfl) (by kernel_rfl) (fun _ _ _ h => h) rfl (hHeld) ?_; simp only [List.setIfInBounds_toArray, List.set_cons_zero, List.set_cons_succ])
        (refine take_skip (i := 12) rfl rfl (by kernel_rfl) (by kernel_rfl) (by kernel_rfl) (fun _ _ _ h => h) rfl (hHeld) ?_; simp only [List.setIfInBounds_toArray, List.set_cons_zero, List.set_cons_succ])
        (refine take_skip (i := 13) rfl rfl (by kernel_rfl) (by kernel_rfl) (by kernel_rfl) (fun _ _ _ h => h) rfl (hHeld) ?_; simp only [List.setIfInBounds_toArray, List.set_cons_zero, List.set_cons_succ])
        (refine take_skip (i := 14) rfl rfl (by kernel_rfl) (by kernel_rfl) (by kernel_rfl) (fun _ _ _ h => h) rfl (hHeld) ?_; simp only [List.setIfInBounds_toArray, List.set_cons_zero, List.set_cons_succ])
        (refine take_val (i := 15) (v := .bool false) rfl rfl (by kernel_rfl) (by kernel_rfl) (by kernel_rfl) (fun _ _ _ h => h) rfl (by intro wq hq; (try go_split_ands); go_simp; try with_reducible rfl) (hHeld) ?_; simp only [List.setIfInBounds_toArray, List.set_cons_zero, List.set_cons_succ])
        refine wpAnyH_done (by kernel_rfl) ?_ _
        clear cx cy hHeld
        go_wp2_with fail
        exact ⟨⟨j + 1, by omega, by go_num, hkp.drew⟩, by simp [intOf]; omega⟩
    · obtain rfl : j = 32 := by omega
      have c0 := (B0.kept hkp).cell
      go_wp2_with fail
      refine (c_iPlanFor _ t _ (hT.keep hkp)).mono ?_; rintro e w7 ⟨v, rfl, ⟨A6, c6, rfl, _⟩, hk7⟩
      replace hkp := hkp.trans hk7
      obtain ⟨p, HPt⟩ : ∃ p, Hid (Sp.planThere t = p) := ⟨_, rfl⟩
      obtain ⟨m, HLp⟩ : ∃ m, Hid ((Sp.planFor t).length = m) := ⟨_, rfl⟩
      rw [HPt.out, HLp.out]
      rw [HPt.out, HLp.out] at HOn
      have B2 := B0.kept hkp
      have hle := HLe.out _ hst
      have cx := (hN.keep hkp).2 _ hst
      obtain ⟨st, Hst2⟩ : ∃ st : Nat, Hid (t.start = (st : Int)) := Int.eq_ofNat_of_zero_le hs0
      rw [Hst2.out, Int.toNat_natCast] at hst cx hle HOn
      rw [Hst2.out] at B2
      obtain ⟨x, HX⟩ : ∃ x, Hid (Sp.numAt l st = x) := ⟨_, rfl⟩
      obtain ⟨y, HY⟩ : ∃ y, Hid (Sp.toGo t st = y) := ⟨_, rfl⟩
      rw [HX.out] at cx
      rw [HX.out, HY.out] at hle
      rw [HY.out] at HOn
      have hst3 : ¬ (32 : Int) ≤ (st : Int) := by omega
      have c2 := B2.cell
      clear hk7 c0 hs0
      cases p
      · go_wp2_with fail
        go_ret
        exact ⟨rfl, hk0.trans hkp⟩
      · obtain ⟨_, hpl, hy0, _⟩ := HOn.out rfl
        have hxm : x ≤ (m : Int) := by have := hle hy0; omega
        clear hpl
        go_wp2_with fail
        go_ret
        exact ⟨rfl, hk0.trans hkp⟩

end Go.Proofs.YtphdojebdclonaaDoor
