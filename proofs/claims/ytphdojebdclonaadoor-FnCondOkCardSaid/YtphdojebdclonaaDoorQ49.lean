/- Joined texts. No condition. -/
import Derived.Test.YtphdojebdclonaaDoorQ34
import Derived.Test.YtphdojebdclonaaDoorQ39
import Derived.Test.YtphdojebdclonaaDoorQ42
import Derived.Test.YtphdojebdclonaaDoorQ48
import Derived.Test.YtphdojebdclonaaDoorQ29
import Derived.Test.YtphdojebdclonaaDoorQ12
import Derived.Test.YtphdojebdclonaaDoorQ45
/- The law FnCondOk, walked. No condition. -/
namespace Go.Proofs.YtphdojebdclonaaDoor
set_option linter.unusedSimpArgs false
set_option linter.unusedVariables false
open Go.RowKit

theorem condOk_tells {t : Sp.Task} {l : List Int} (h : Sp.condOk t l = true) : Sp.planThere t = false ∧ Sp.condOk t (Sp.simpleCode l) = true := by
  unfold Sp.condOk at h
  rw [Bool.and_eq_true] at h
  obtain ⟨h1, h2⟩ := h
  obtain ⟨k1, k2⟩ := simpleCode_ok h1
  refine ⟨(closedOk_none h2).1, ?_⟩
  have ht : Sp.codeTruth (Sp.simpleCode l) = Sp.codeTruth l := by
    unfold Sp.codeTruth
    rw [if_pos k1, if_pos h1]
    have : Sp.truth (Sp.simpleCode l) = Sp.truth l := by
      unfold Sp.truth
      rw [show Sp.run (Sp.simpleCode l) = Sp.run l from funext k2]
    rw [this]
  unfold Sp.condOk
  rw [k1, ht, h2]; rfl

set_option maxHeartbeats 4000000 in
set_option maxRecDepth 100000 in
theorem l_CondOkFn (A : Option Addr) (n c : Nat) (w : World) (h : BytesV w A n ∧ n ≤ c ∧ c ≤ maxLen) (hg : ErrG w) : Calls Tryd.prog 5 #[.slice A n c] w (RetK (.bool true) w) := by
  by_cases hn : 1048576 < n
  · have hn1 : (1048576 : Int) < (n : Int) := by omega
    go_enter Tryd.func5, Tryd.ntmps5
    go_wp2_with fail
    go_ret
    exact ⟨rfl, Kept.refl _⟩
  have hn1 : ¬ (1048576 : Int) < (n : Int) := by omega
  have HG := Lib.hid hg
  clear hg
  go_enter Tryd.func5, Tryd.ntmps5
  go_wp2_with fail
  refine (c_drawCondOk A n c w h).mono ?_; rintro e w2 ⟨v, rfl, ⟨tv, t, A5, n5, c5, l, rfl, hTV, hI5⟩, hk2⟩
  obtain ⟨A1, m1, c1, A2, m2, c2, rfl⟩ := hTV.form
  have hkx := (Kept.refl w2).alloc (.cells #[.int .i64 t.start, .slice A1 m1 c1, .slice A2 m2 c2] 26)
  have hk0 := hk2.trans hkx
  have hT := hTV.keep hkx
  have hL := hI5.keep hkx
  have B0 := Blk.new w2 26 #[.int .i64 t.start, .slice A1 m1 c1, .slice A2 m2 c2]
  clear hk2 hTV hI5 hkx
  go_wp2_with fail
  refine (c_iCondOk _ t A5 n5 c5 l _ hT hL (HG.out.keep hk0)).mono ?_; rintro e w3 ⟨rfl, hk3⟩
  replace hk0 := hk0.trans hk3
  replace B0 := B0.kept hk3
  replace hT := hT.keep hk3
  replace hL := hL.keep hk3
  clear hk3
  have c0 := B0.cell
  have HTl := Lib.hid (fun (h : Sp.condOk t l = true) => condOk_tells h)
  obtain ⟨b, HBb⟩ : ∃ b, Hid (Sp.condOk t l = b) := ⟨_, rfl⟩
  rw [HBb.out] at HTl
  rw [HBb.out]
  go_wp2_with fail
  refine (c_sCondOk _ t A5 n5 c5 l _ hT hL).mono ?_; rintro e w4 ⟨rfl, hk4⟩
  rw [HBb.out]
  replace hk0 := hk0.trans hk4
  replace B0 := B0.kept hk4
  replace hT := hT.keep hk4
  replace hL := hL.keep hk4
  clear hk4 c0
  have c0 := B0.cell
  have hbb : (b != b) = false := by simp
  go_wp2_with fail
  refine (c_iPlanFor _ t _ hT).mono ?_; rintro e w5 ⟨v, rfl, ⟨A3, c3, rfl, hO⟩, hk5⟩
  replace hk0 := hk0.trans hk5
  replace B0 := B0.kept hk5
  replace hT := hT.keep hk5
  replace hL := hL.keep hk5
  clear hk5 c0 hO hbb
  obtain ⟨q, HQ⟩ : ∃ q, Hid (Sp.planThere t = q) := ⟨_, rfl⟩
  rw [HQ.out] at HTl
  rw [HQ.out]
  have hkd := (Kept.refl w5).drew
  have hk1 := hk0.trans hkd
  have B1 := B0.kept hkd
  have hT1 := hT.keep hkd
  have hL1 := hL.keep hkd
  clear hk0 B0 hT hL hkd
  go_wp2_with fail
  refine wp_region_held_drew (S := fun w' => w'.cell? ⟨w2.heap.size, 0, none⟩ = some (.int .i64 t.start) ∧ w'.cell? ⟨w2.heap.size, 1, none⟩ = some (.slice A1 m1 c1) ∧ w'.cell? ⟨w2.heap.size, 2, none⟩ = some (.slice A2 m2 c2)) (by kernel_rfl) ⟨B1.cell 0, B1.cell 1, B1.cell 2⟩ (fun hHeld => ?_)
  obtain ⟨W0, HW0⟩ : ∃ x, Hid (w5.drew = x) := ⟨_, rfl⟩
  rw [HW0.out] at hk1 B1 hT1 hL1 hHeld
  rw [HW0.out]
  cases b
  · (refine take_val (i := 0) (v := .bool false) rfl rfl (by kernel_rfl) (by kernel_rfl) (by kernel_rfl) (fun _ _ _ h => h) rfl (by intro wq hq; (try go_split_ands); go_simp; try with_reducible rfl) (hHeld) ?_; try simp only [List.setIfInBounds_toArray, List.set_cons_zero, List.set_cons_succ])
    (refine take_val (i := 1) (v := .bool true) rfl rfl (by kernel_rfl) (by kernel_rfl) (by kernel_rfl) (fun _ _ _ h => h) rfl (by intro wq hq; (try go_split_ands); go_simp; try with_reducible rfl) (hHeld) ?_; try simp only [List.setIfInBounds_toArray, List.set_cons_zero, List.set_cons_succ])
    (refine take_val (i := 2) (v := .bool true) rfl rfl (by kernel_rfl) (by kernel_rfl) (by kernel_rfl) (fun _ _ _ h => h) rfl (by intro wq hq; (try go_split_ands); go_simp; try with_reducible rfl) (hHeld) ?_; try simp only [List.setIfInBounds_toArray, List.set_cons_zero, List.set_cons_succ])
    (refine take_skip (i := 3) rfl rfl (by kernel_rfl) (by kernel_rfl) (by kernel_rfl) (fun _ _ _ h => h) rfl (hHeld) ?_; try simp only [List.setIfInBounds_toArray, List.set_cons_zero, List.set_cons_succ])
    (refine take_skip (i := 4) rfl rfl (by kernel_rfl) (by kernel_rfl) (by kernel_rfl) (fun _ _ _ h => h) rfl (hHeld) ?_; try simp only [List.setIfInBounds_toArray, List.set_cons_zero, List.set_cons_succ])
    (refine take_skip (i := 5) rfl rfl (by kernel_rfl) (by kernel_rfl) (by kernel_rfl) (fun _ _ _ h => h) rfl (hHeld) ?_; try simp only [List.setIfInBounds_toArray, List.set_cons_zero, List.set_cons_succ])
    (refine take_skip (i := 6) rfl rfl (by kernel_rfl) (by kernel_rfl) (by kernel_rfl) (fun _ _ _ h => h) rfl (hHeld) ?_; try simp only [List.setIfInBounds_toArray, List.set_cons_zero, List.set_cons_succ])
    (refine take_skip (i := 7) rfl rfl (by kernel_rfl) (by kernel_rfl) (by kernel_rfl) (fun _ _ _ h => h) rfl (hHeld) ?_; try simp only [List.setIfInBounds_toArray, List.set_cons_zero, List.set_cons_succ])
    (refine take_skip (i := 8) rfl rfl (by kernel_rfl) (by kernel_rfl) (by kernel_rfl) (fun _ _ _ h => h) rfl (hHeld) ?_; try simp only [List.setIfInBounds_toArray, List.set_cons_zero, List.set_cons_succ])
    (refine take_skip (i := 9) rfl rfl (by kernel_rfl) (by kernel_rfl) (by kernel_rfl) (fun _ _ _ h => h) rfl (hHeld) ?_; try simp only [List.setIfInBounds_toArray, List.set_cons_zero, List.set_cons_succ])
    (refine take_skip (i := 10) rfl rfl (by kernel_rfl) (by kernel_rfl) (by kernel_rfl) (fun _ _ _ h => h) rfl (hHeld) ?_; try simp only [List.setIfInBounds_toArray, List.set_cons_zero, List.set_cons_succ])
    (refine take_val (i := 11) (v := .bool true) rfl rfl (by kernel_rfl) (by kernel_rfl) (by kernel_rfl) (fun _ _ _ h => h) rfl (by intro wq hq; (try go_split_ands); go_simp; try with_reducible rfl) (hHeld) ?_; try simp only [List.setIfInBounds_toArray, List.set_cons_zero, List.set_cons_succ])
    (refine take_val (i := 12) (v := .bool true) rfl rfl (by kernel_rfl) (by kernel_rfl) (by kernel_rfl) (fun _ _ _ h => h) rfl (by intro wq hq; (try go_split_ands); go_simp; try with_reducible rfl) (hHeld) ?_; try simp only [List.setIfInBounds_toArray, List.set_cons_zero, List.set_cons_succ])
    clear hHeld
    (refine wpAnyH_ready (rs := [13]) (by kernel_rfl) (by simp) ?_; refine AllReadyH.cons rfl (fun K hK => ?_) AllReadyH.nil; go_simp)
    refine (c_alive _).mono ?_; rintro e w9 ⟨rfl, hk9⟩
    replace B1 := B1.kept hk9
    replace hk1 := hk1.trans hk9
    (refine hK.out _ _ (⟨B1.cell 0, B1.cell 1, B1.cell 2⟩) (fun _ => ?_); clear hK K; try simp only [Act.put, List.setIfInBounds_toArray, List.set_cons_zero, List.set_cons_succ])
    (refine take_val (i := 14) (v := .bool true) rfl rfl (by kernel_rfl) (by kernel_rfl) (by kernel_rfl) (fun _ _ _ h => h) rfl (by intro wq hq; (try go_split_ands); go_simp; try with_reducible rfl) (⟨B1.cell 0, B1.cell 1, B1.cell 2⟩) ?_; try simp only [List.setIfInBounds_toArray, List.set_cons_zero, List.set_cons_succ])
    (refine take_val (i := 15) (v := .bool true) rfl rfl (by kernel_rfl) (by kernel_rfl) (by kernel_rfl) (fun _ _ _ h => h) rfl (by intro wq hq; (try go_split_ands); go_simp; try with_reducible rfl) (⟨B1.cell 0, B1.cell 1, B1.cell 2⟩) ?_; try simp only [List.setIfInBounds_toArray, List.set_cons_zero, List.set_cons_succ])
    refine wpAnyH_done (by kernel_rfl) ?_ _
    go_wp2_with fail
    go_ret
    exact ⟨rfl, hk1⟩
  · obtain ⟨hq, hS⟩ := HTl.out rfl
    obtain rfl : q = false := hq
    have HS := Lib.hid hS
    clear hS HTl
    (refine take_val (i := 0) (v := .bool true) rfl rfl (by kernel_rfl) (by kernel_rfl) (by kernel_rfl) (fun _ _ _ h => h) rfl (by intro wq hq; (try go_split_ands); go_simp; try with_reducible rfl) (hHeld) ?_; try simp only [List.setIfInBounds_toArray, List.set_cons_zero, List.set_cons_succ])
    (refine take_val (i := 1) (v := .bool false) rfl rfl (by kernel_rfl) (by kernel_rfl) (by kernel_rfl) (fun _ _ _ h => h) rfl (by intro wq hq; (try go_split_ands); go_simp; try with_reducible rfl) (hHeld) ?_; try simp only [List.setIfInBounds_toArray, List.set_cons_zero, List.set_cons_succ])
    (refine take_val (i := 2) (v := .bool false) rfl rfl (by kernel_rfl) (by kernel_rfl) (by kernel_rfl) (fun _ _ _ h => h) rfl (by intro wq hq; (try go_split_ands); go_simp; try with_reducible rfl) (hHeld) ?_; try simp only [List.setIfInBounds_toArray, List.set_cons_zero, List.set_cons_succ])
    (refine take_val (i := 3) (v := .bool false) rfl rfl (by kernel_rfl) (by kernel_rfl) (by kernel_rfl) (fun _ _ _ h => h) rfl (by intro wq hq; (try go_split_ands); go_simp; try with_reducible rfl) (hHeld) ?_; try simp only [List.setIfInBounds_toArray, List.set_cons_zero, List.set_cons_succ])
    (refine take_val (i := 4) (v := .bool true) rfl rfl (by kernel_rfl) (by kernel_rfl) (by kernel_rfl) (fun _ _ _ h => h) rfl (by intro wq hq; (try go_split_ands); go_simp; try with_reducible rfl) (hHeld) ?_; try simp only [List.setIfInBounds_toArray, List.set_cons_zero, List.set_cons_succ])
    (refine take_val (i := 5) (v := .bool true) rfl rfl (by kernel_rfl) (by kernel_rfl) (by kernel_rfl) (fun _ _ _ h => h) rfl (by intro wq hq; (try go_split_ands); go_simp; try with_reducible rfl) (hHeld) ?_; try simp only [List.setIfInBounds_toArray, List.set_cons_zero, List.set_cons_succ])
    (refine take_val (i := 6) (v := .agg #[.int .i64 t.start, .slice A1 m1 c1, .slice A2 m2 c2]) rfl rfl (by kernel_rfl) (by kernel_rfl) (by kernel_rfl) (fun _ _ _ h => h) rfl (by intro wq hq; (try go_split_ands); go_simp; try with_reducible rfl) (hHeld) ?_; try simp only [List.setIfInBounds_toArray, List.set_cons_zero, List.set_cons_succ])
    (refine take_val (i := 7) (v := .slice A5 n5 c5) rfl rfl (by kernel_rfl) (by kernel_rfl) (by kernel_rfl) (fun _ _ _ h => h) rfl (by intro wq hq; (try go_split_ands); go_simp; try with_reducible rfl) (hHeld) ?_; try simp only [List.setIfInBounds_toArray, List.set_cons_zero, List.set_cons_succ])
    clear hHeld
    (refine wpAnyH_ready (rs := [8]) (by kernel_rfl) (by simp) ?_; refine AllReadyH.cons rfl (fun K hK => ?_) AllReadyH.nil; go_simp)
    refine (c_iCodeSimple A5 n5 c5 l _ hL1).mono ?_; rintro e w6 ⟨v, rfl, ⟨A6, n6, c6, rfl, hI6⟩, hk6⟩
    replace B1 := B1.kept hk6
    replace hk1 := hk1.trans hk6
    replace hT1 := hT1.keep hk6
    (refine hK.out _ _ (⟨B1.cell 0, B1.cell 1, B1.cell 2⟩) (fun _ => ?_); clear hK K; try simp only [Act.put, List.setIfInBounds_toArray, List.set_cons_zero, List.set_cons_succ])
    (refine wpAnyH_ready (rs := [9]) (by kernel_rfl) (by simp) ?_; refine AllReadyH.cons rfl (fun K hK => ?_) AllReadyH.nil; go_simp)
    refine (c_iCondOk _ t A6 n6 c6 _ _ hT1 hI6 (HG.out.keep hk1)).mono ?_; rintro e w7 ⟨rfl, hk7⟩
    rw [HS.out]
    replace B1 := B1.kept hk7
    replace hk1 := hk1.trans hk7
    (refine hK.out _ _ (⟨B1.cell 0, B1.cell 1, B1.cell 2⟩) (fun _ => ?_); clear hK K; try simp only [Act.put, List.setIfInBounds_toArray, List.set_cons_zero, List.set_cons_succ])
    (refine take_val (i := 10) (v := .bool true) rfl rfl (by kernel_rfl) (by kernel_rfl) (by kernel_rfl) (fun _ _ _ h => h) rfl (by intro wq hq; (try go_split_ands); go_simp; try with_reducible rfl) (⟨B1.cell 0, B1.cell 1, B1.cell 2⟩) ?_; try simp only [List.setIfInBounds_toArray, List.set_cons_zero, List.set_cons_succ])
    (refine take_val (i := 11) (v := .bool true) rfl rfl (by kernel_rfl) (by kernel_rfl) (by kernel_rfl) (fun _ _ _ h => h) rfl (by intro wq hq; (try go_split_ands); go_simp; try with_reducible rfl) (⟨B1.cell 0, B1.cell 1, B1.cell 2⟩) ?_; try simp only [List.setIfInBounds_toArray, List.set_cons_zero, List.set_cons_succ])
    (refine take_val (i := 12) (v := .bool true) rfl rfl (by kernel_rfl) (by kernel_rfl) (by kernel_rfl) (fun _ _ _ h => h) rfl (by intro wq hq; (try go_split_ands); go_simp; try with_reducible rfl) (⟨B1.cell 0, B1.cell 1, B1.cell 2⟩) ?_; try simp only [List.setIfInBounds_toArray, List.set_cons_zero, List.set_cons_succ])
    (refine wpAnyH_ready (rs := [13]) (by kernel_rfl) (by simp) ?_; refine AllReadyH.cons rfl (fun K hK => ?_) AllReadyH.nil; go_simp)
    refine (c_alive _).mono ?_; rintro e w9 ⟨rfl, hk9⟩
    replace B1 := B1.kept hk9
    replace hk1 := hk1.trans hk9
    (refine hK.out _ _ (⟨B1.cell 0, B1.cell 1, B1.cell 2⟩) (fun _ => ?_); clear hK K; try simp only [Act.put, List.setIfInBounds_toArray, List.set_cons_zero, List.set_cons_succ])
    (refine take_val (i := 14) (v := .bool true) rfl rfl (by kernel_rfl) (by kernel_rfl) (by kernel_rfl) (fun _ _ _ h => h) rfl (by intro wq hq; (try go_split_ands); go_simp; try with_reducible rfl) (⟨B1.cell 0, B1.cell 1, B1.cell 2⟩) ?_; try simp only [List.setIfInBounds_toArray, List.set_cons_zero, List.set_cons_succ])
    (refine take_val (i := 15) (v := .bool true) rfl rfl (by kernel_rfl) (by kernel_rfl) (by kernel_rfl) (fun _ _ _ h => h) rfl (by intro wq hq; (try go_split_ands); go_simp; try with_reducible rfl) (⟨B1.cell 0, B1.cell 1, B1.cell 2⟩) ?_; try simp only [List.setIfInBounds_toArray, List.set_cons_zero, List.set_cons_succ])
    refine wpAnyH_done (by kernel_rfl) ?_ _
    go_wp2_with fail
    go_ret
    exact ⟨rfl, hk1⟩

end Go.Proofs.YtphdojebdclonaaDoor
