/- The law FnProofRight, walked. No condition. -/
import Derived.Test.YtphdojebdclonaaGreatDoorQD21
import Derived.Test.YtphdojebdclonaaGreatDoorQ44
import Derived.Test.YtphdojebdclonaaGreatDoorQ46
import Derived.Test.YtphdojebdclonaaGreatDoorQ36
import Derived.Test.YtphdojebdclonaaGreatDoorQ10
import Derived.Test.YtphdojebdclonaaGreatDoorQ13
import Derived.Test.YtphdojebdclonaaGreatDoorQ18
namespace Go.Proofs.YtphdojebdclonaaGreatDoor
set_option linter.unusedSimpArgs false
set_option linter.unusedVariables false
open Go.RowKit

set_option maxHeartbeats 4000000 in
set_option maxRecDepth 100000 in
theorem l_ProofRightFn (A : Option Addr) (n c : Nat) (w : World) (h : BytesV w A n ∧ n ≤ c ∧ c ≤ maxLen) (hm : ∃ m, w.cell? ⟨1, 0, none⟩ = some (.int .i64 m)) (hg : ErrG w) :
    Calls Tryz.prog 5 #[.slice A n c] w (RetK (.bool true) w) := by
  by_cases hn : 1048576 < n
  · have hn1 : (1048576 : Int) < (n : Int) := by omega
    go_enter Tryz.func5, Tryz.ntmps5
    go_wp2_with fail
    go_ret
    exact ⟨rfl, Kept.refl _⟩
  have hn1 : ¬ (1048576 : Int) < (n : Int) := by omega
  obtain ⟨m, hm0⟩ := hm
  have HMx := Lib.hid hm0
  have HG := Lib.hid hg
  clear hm0 hg
  go_enter Tryz.func5, Tryz.ntmps5
  go_wp2_with fail
  refine (c_drawProofRight A n c w h).mono ?_; rintro e w2 ⟨v, rfl, ⟨tv, t, s, rfl, hTV, hsl⟩, hk2⟩
  obtain ⟨A1, m1, c1, A2, m2, c2, rfl⟩ := hTV.form
  have hk0 := hk2.alloc (.cells #[.int .i64 t.start, .slice A1 m1 c1, .slice A2 m2 c2] 26)
  have hT := hTV.keep ((Kept.refl w2).alloc (.cells #[.int .i64 t.start, .slice A1 m1 c1, .slice A2 m2 c2] 26))
  have B0 := Blk.new w2 26 #[.int .i64 t.start, .slice A1 m1 c1, .slice A2 m2 c2]
  clear hk2 hTV
  go_wp2_with fail
  refine (c_iProofRight _ t s m _ hT (by omega) (hk0.at_ HMx.out) (HG.out.keep hk0)).mono ?_; rintro e w3 ⟨rfl, hk3⟩
  replace hk0 := hk0.trans hk3
  replace B0 := B0.kept hk3
  replace hT := hT.keep hk3
  clear hk3
  have c0 := B0.cell
  obtain ⟨y, HY⟩ : ∃ y, Hid (Sp.proofRight t s = y) := ⟨_, rfl⟩
  rw [HY.out]
  go_wp2_with fail
  refine (c_sProofRight _ t s _ hT (by omega)).mono ?_; rintro e w4 ⟨rfl, hk4⟩
  rw [HY.out]
  replace hk0 := hk0.trans hk4
  replace B0 := B0.kept hk4
  replace hT := hT.keep hk4
  clear hk4 c0
  have c0 := B0.cell
  have hyy : (y != y) = false := by simp
  rcases proofRight_tells t s with ⟨h1, hp, hok⟩ | ⟨h1, hp, hok⟩ | h1
  · obtain rfl : y = 1 := by rw [← HY.out]; exact h1
    clear h1
    have B1 := B0.kept (Kept.refl w4).drew
    have hTd := hT.keep (Kept.refl w4).drew
    have hkd := hk0.trans (Kept.refl w4).drew
    have HOK := Lib.hid hok
    have HB : Hid ((Sp.leadsN t).testBit t.start.toNat = true) := by
      show _ = _
      rw [← leads_toGo (start_lt hok)]
      have hp' := hp
      unfold Sp.planThere at hp'
      rw [hok, Bool.true_and] at hp'
      exact hp'
    have HLd : Hid (Sp.leadsTo t = (Sp.leadsN t : Nat)) := by show _ = _; unfold Sp.leadsTo; rw [if_pos hok]
    have hll := leadsN_lt t
    have hst := start_lt hok
    obtain ⟨hs0, _⟩ := Sp.taskOk_start hok
    obtain ⟨st, Hst2⟩ : ∃ st : Nat, Hid (t.start = (st : Int)) := Int.eq_ofNat_of_zero_le hs0
    rw [Hst2.out, Int.toNat_natCast] at hst HB
    obtain ⟨L, HL⟩ : ∃ L, Hid (Sp.leadsN t = L) := ⟨_, rfl⟩
    rw [HL.out] at hll HB HLd
    have hb1 : ((L : Int) / 2 ^ st).tmod 2 = 1 := by rw [tmod_bit, HB.out]; rfl
    rw [Hst2.out] at B1
    have hTs : TaskV w4.drew (.agg #[.int .i64 (st : Int), .slice A1 m1 c1, .slice A2 m2 c2]) t := by rw [← Hst2.out]; exact hTd
    clear hok hp hTd hs0 c0 hT
    go_wp2_with fail
    refine wp_region_held_drew (S := fun w' => w'.cell? ⟨w2.heap.size, 0, none⟩ = some (.int .i64 (st : Int)) ∧ w'.cell? ⟨w2.heap.size, 1, none⟩ = some (.slice A1 m1 c1) ∧ w'.cell? ⟨w2.heap.size, 2, none⟩ = some (.slice A2 m2 c2)) (by kernel_rfl) ⟨B1.cell 0, B1.cell 1, B1.cell 2⟩ (fun hHeld => ?_)
    obtain ⟨W0, HW0⟩ : ∃ x, Hid (w4.drew = x) := ⟨_, rfl⟩
    rw [HW0.out] at hkd B1 hTs hHeld
    rw [HW0.out]
    (refine take_val (i := 0) (v := .agg #[.int .i64 (st : Int), .slice A1 m1 c1, .slice A2 m2 c2]) rfl rfl (by kernel_rfl) (by kernel_rfl) (by kernel_rfl) (fun _ _ _ h => h) rfl (by intro wq hq; (try go_split_ands); go_simp; try with_reducible rfl) (hHeld) ?_; try simp only [List.setIfInBounds_toArray, List.set_cons_zero, List.set_cons_succ])
    (refine wpAnyH_ready (rs := [1]) (by kernel_rfl) (by simp) ?_; refine AllReadyH.cons rfl (fun K hK => ?_) AllReadyH.nil; go_simp)
    refine (c_sTaskValid _ t _ hTs).mono ?_; rintro e w5 ⟨rfl, hk5⟩
    rw [HOK.out]
    have B5 := B1.kept hk5
    have hT5 := hTs.keep hk5
    have hkw5 := hkd.trans hk5
    (refine hK.out _ _ (⟨B5.cell 0, B5.cell 1, B5.cell 2⟩) (fun _ => ?_); clear hK K; try simp only [Act.put, List.setIfInBounds_toArray, List.set_cons_zero, List.set_cons_succ])
    (refine take_val (i := 2) (v := .bool true) rfl rfl (by kernel_rfl) (by kernel_rfl) (by kernel_rfl) (fun _ _ _ h => h) rfl (by intro wq hq; (try go_split_ands); go_simp; try with_reducible rfl) (⟨B5.cell 0, B5.cell 1, B5.cell 2⟩) ?_; try simp only [List.setIfInBounds_toArray, List.set_cons_zero, List.set_cons_succ])
    (refine take_val (i := 3) (v := .int .i64 1) rfl rfl (by kernel_rfl) (by kernel_rfl) (by kernel_rfl) (fun _ _ _ h => h) rfl (by intro wq hq; (try go_split_ands); go_simp; try with_reducible rfl) (⟨B5.cell 0, B5.cell 1, B5.cell 2⟩) ?_; try simp only [List.setIfInBounds_toArray, List.set_cons_zero, List.set_cons_succ])
    (refine take_val (i := 4) (v := .bool true) rfl rfl (by kernel_rfl) (by kernel_rfl) (by kernel_rfl) (fun _ _ _ h => h) rfl (by intro wq hq; (try go_split_ands); go_simp; try with_reducible rfl) (⟨B5.cell 0, B5.cell 1, B5.cell 2⟩) ?_; try simp only [List.setIfInBounds_toArray, List.set_cons_zero, List.set_cons_succ])
    (refine take_val (i := 5) (v := .agg #[.int .i64 (st : Int), .slice A1 m1 c1, .slice A2 m2 c2]) rfl rfl (by kernel_rfl) (by kernel_rfl) (by kernel_rfl) (fun _ _ _ h => h) rfl (by intro wq hq; (try go_split_ands); go_simp; try with_reducible rfl) (⟨B5.cell 0, B5.cell 1, B5.cell 2⟩) ?_; try simp only [List.setIfInBounds_toArray, List.set_cons_zero, List.set_cons_succ])
    (refine take_val (i := 7) (v := .pointer (some ⟨w2.heap.size, 0, none⟩)) rfl rfl (by kernel_rfl) (by kernel_rfl) (by kernel_rfl) (fun _ _ _ h => h) rfl (by intro wq hq; (try go_split_ands); go_simp; try with_reducible rfl) (⟨B5.cell 0, B5.cell 1, B5.cell 2⟩) ?_; try simp only [List.setIfInBounds_toArray, List.set_cons_zero, List.set_cons_succ])
    (refine take_val (i := 8) (v := .int .i64 (st : Int)) rfl rfl (by kernel_rfl) (by kernel_rfl) (by kernel_rfl) (fun _ _ _ h => h) rfl (by intro wq hq; (try go_split_ands); go_simp; try with_reducible rfl) (⟨B5.cell 0, B5.cell 1, B5.cell 2⟩) ?_; try simp only [List.setIfInBounds_toArray, List.set_cons_zero, List.set_cons_succ])
    (refine wpAnyH_ready (rs := [6]) (by kernel_rfl) (by simp) ?_; refine AllReadyH.cons rfl (fun K hK => ?_) AllReadyH.nil; go_simp)
    refine (c_iLeadsTo _ t _ hT5).mono ?_; rintro e w6 ⟨rfl, hk6⟩
    rw [HLd.out]
    have B6 := B5.kept hk6
    have hkw6 := hkw5.trans hk6
    (refine hK.out _ _ (⟨B6.cell 0, B6.cell 1, B6.cell 2⟩) (fun _ => ?_); clear hK K; try simp only [Act.put, List.setIfInBounds_toArray, List.set_cons_zero, List.set_cons_succ])
    (refine take_val (i := 9) (v := .int .i64 ((L : Int) / 2 ^ st)) rfl rfl (by kernel_rfl) (by kernel_rfl) (by kernel_rfl) (fun _ _ _ h => h) rfl (by intro wq hq; (try go_split_ands); go_simp; try with_reducible rfl) (⟨B6.cell 0, B6.cell 1, B6.cell 2⟩) ?_; try simp only [List.setIfInBounds_toArray, List.set_cons_zero, List.set_cons_succ])
    (refine take_val (i := 10) (v := .int .i64 1) rfl rfl (by kernel_rfl) (by kernel_rfl) (by kernel_rfl) (fun _ _ _ h => h) rfl (by intro wq hq; (try go_split_ands); go_simp; try with_reducible rfl) (⟨B6.cell 0, B6.cell 1, B6.cell 2⟩) ?_; try simp only [List.setIfInBounds_toArray, List.set_cons_zero, List.set_cons_succ])
    (refine take_val (i := 11) (v := .bool true) rfl rfl (by kernel_rfl) (by kernel_rfl) (by kernel_rfl) (fun _ _ _ h => h) rfl (by intro wq hq; (try go_split_ands); go_simp; try with_reducible rfl) (⟨B6.cell 0, B6.cell 1, B6.cell 2⟩) ?_; try simp only [List.setIfInBounds_toArray, List.set_cons_zero, List.set_cons_succ])
    (refine take_val (i := 12) (v := .bool true) rfl rfl (by kernel_rfl) (by kernel_rfl) (by kernel_rfl) (fun _ _ _ h => h) rfl (by intro wq hq; (try go_split_ands); go_simp; try with_reducible rfl) (⟨B6.cell 0, B6.cell 1, B6.cell 2⟩) ?_; try simp only [List.setIfInBounds_toArray, List.set_cons_zero, List.set_cons_succ])
    (refine take_val (i := 13) (v := .bool true) rfl rfl (by kernel_rfl) (by kernel_rfl) (by kernel_rfl) (fun _ _ _ h => h) rfl (by intro wq hq; (try go_split_ands); go_simp; try with_reducible rfl) (⟨B6.cell 0, B6.cell 1, B6.cell 2⟩) ?_; try simp only [List.setIfInBounds_toArray, List.set_cons_zero, List.set_cons_succ])
    (refine take_val (i := 14) (v := .bool true) rfl rfl (by kernel_rfl) (by kernel_rfl) (by kernel_rfl) (fun _ _ _ h => h) rfl (by intro wq hq; (try go_split_ands); go_simp; try with_reducible rfl) (⟨B6.cell 0, B6.cell 1, B6.cell 2⟩) ?_; try simp only [List.setIfInBounds_toArray, List.set_cons_zero, List.set_cons_succ])
    (refine take_val (i := 15) (v := .int .i64 1) rfl rfl (by kernel_rfl) (by kernel_rfl) (by kernel_rfl) (fun _ _ _ h => h) rfl (by intro wq hq; (try go_split_ands); go_simp; try with_reducible rfl) (⟨B6.cell 0, B6.cell 1, B6.cell 2⟩) ?_; try simp only [List.setIfInBounds_toArray, List.set_cons_zero, List.set_cons_succ])
    (refine take_val (i := 16) (v := .bool true) rfl rfl (by kernel_rfl) (by kernel_rfl) (by kernel_rfl) (fun _ _ _ h => h) rfl (by intro wq hq; (try go_split_ands); go_simp; try with_reducible rfl) (⟨B6.cell 0, B6.cell 1, B6.cell 2⟩) ?_; try simp only [List.setIfInBounds_toArray, List.set_cons_zero, List.set_cons_succ])
    (refine take_val (i := 17) (v := .bool true) rfl rfl (by kernel_rfl) (by kernel_rfl) (by kernel_rfl) (fun _ _ _ h => h) rfl (by intro wq hq; (try go_split_ands); go_simp; try with_reducible rfl) (⟨B6.cell 0, B6.cell 1, B6.cell 2⟩) ?_; try simp only [List.setIfInBounds_toArray, List.set_cons_zero, List.set_cons_succ])
    (refine take_val (i := 18) (v := .bool true) rfl rfl (by kernel_rfl) (by kernel_rfl) (by kernel_rfl) (fun _ _ _ h => h) rfl (by intro wq hq; (try go_split_ands); go_simp; try with_reducible rfl) (⟨B6.cell 0, B6.cell 1, B6.cell 2⟩) ?_; try simp only [List.setIfInBounds_toArray, List.set_cons_zero, List.set_cons_succ])
    refine wpAnyH_done (by kernel_rfl) ?_ _
    clear hHeld
    go_wp2_with fail
    go_ret
    exact ⟨rfl, hkw6⟩
  · obtain rfl : y = 0 := by rw [← HY.out]; exact h1
    clear h1
    have B1 := B0.kept (Kept.refl w4).drew
    have hTd := hT.keep (Kept.refl w4).drew
    have hkd := hk0.trans (Kept.refl w4).drew
    have HOK := Lib.hid hok
    have HB : Hid ((Sp.leadsN t).testBit t.start.toNat = false) := by
      show _ = _
      rw [← leads_toGo (start_lt hok)]
      have hp' := hp
      unfold Sp.planThere at hp'
      rw [hok, Bool.true_and] at hp'
      exact hp'
    have HLd : Hid (Sp.leadsTo t = (Sp.leadsN t : Nat)) := by show _ = _; unfold Sp.leadsTo; rw [if_pos hok]
    have hll := leadsN_lt t
    have hst := start_lt hok
    obtain ⟨hs0, _⟩ := Sp.taskOk_start hok
    obtain ⟨st, Hst2⟩ : ∃ st : Nat, Hid (t.start = (st : Int)) := Int.eq_ofNat_of_zero_le hs0
    rw [Hst2.out, Int.toNat_natCast] at hst HB
    obtain ⟨L, HL⟩ : ∃ L, Hid (Sp.leadsN t = L) := ⟨_, rfl⟩
    rw [HL.out] at hll HB HLd
    have hb1 : ((L : Int) / 2 ^ st).tmod 2 = 0 := by rw [tmod_bit, HB.out]; rfl
    rw [Hst2.out] at B1
    have hTs : TaskV w4.drew (.agg #[.int .i64 (st : Int), .slice A1 m1 c1, .slice A2 m2 c2]) t := by rw [← Hst2.out]; exact hTd
    clear hok hp hTd hs0 c0 hT
    go_wp2_with fail
    refine wp_region_held_drew (S := fun w' => w'.cell? ⟨w2.heap.size, 0, none⟩ = some (.int .i64 (st : Int)) ∧ w'.cell? ⟨w2.heap.size, 1, none⟩ = some (.slice A1 m1 c1) ∧ w'.cell? ⟨w2.heap.size, 2, none⟩ = some (.slice A2 m2 c2)) (by kernel_rfl) ⟨B1.cell 0, B1.cell 1, B1.cell 2⟩ (fun hHeld => ?_)
    obtain ⟨W0, HW0⟩ : ∃ x, Hid (w4.drew = x) := ⟨_, rfl⟩
    rw [HW0.out] at hkd B1 hTs hHeld
    rw [HW0.out]
    (refine take_val (i := 0) (v := .agg #[.int .i64 (st : Int), .slice A1 m1 c1, .slice A2 m2 c2]) rfl rfl (by kernel_rfl) (by kernel_rfl) (by kernel_rfl) (fun _ _ _ h => h) rfl (by intro wq hq; (try go_split_ands); go_simp; try with_reducible rfl) (hHeld) ?_; try simp only [List.setIfInBounds_toArray, List.set_cons_zero, List.set_cons_succ])
    (refine wpAnyH_ready (rs := [1]) (by kernel_rfl) (by simp) ?_; refine AllReadyH.cons rfl (fun K hK => ?_) AllReadyH.nil; go_simp)
    refine (c_sTaskValid _ t _ hTs).mono ?_; rintro e w5 ⟨rfl, hk5⟩
    rw [HOK.out]
    have B5 := B1.kept hk5
    have hT5 := hTs.keep hk5
    have hkw5 := hkd.trans hk5
    (refine hK.out _ _ (⟨B5.cell 0, B5.cell 1, B5.cell 2⟩) (fun _ => ?_); clear hK K; try simp only [Act.put, List.setIfInBounds_toArray, List.set_cons_zero, List.set_cons_succ])
    (refine take_val (i := 2) (v := .bool true) rfl rfl (by kernel_rfl) (by kernel_rfl) (by kernel_rfl) (fun _ _ _ h => h) rfl (by intro wq hq; (try go_split_ands); go_simp; try with_reducible rfl) (⟨B5.cell 0, B5.cell 1, B5.cell 2⟩) ?_; try simp only [List.setIfInBounds_toArray, List.set_cons_zero, List.set_cons_succ])
    (refine take_val (i := 3) (v := .int .i64 0) rfl rfl (by kernel_rfl) (by kernel_rfl) (by kernel_rfl) (fun _ _ _ h => h) rfl (by intro wq hq; (try go_split_ands); go_simp; try with_reducible rfl) (⟨B5.cell 0, B5.cell 1, B5.cell 2⟩) ?_; try simp only [List.setIfInBounds_toArray, List.set_cons_zero, List.set_cons_succ])
    (refine take_val (i := 4) (v := .bool false) rfl rfl (by kernel_rfl) (by kernel_rfl) (by kernel_rfl) (fun _ _ _ h => h) rfl (by intro wq hq; (try go_split_ands); go_simp; try with_reducible rfl) (⟨B5.cell 0, B5.cell 1, B5.cell 2⟩) ?_; try simp only [List.setIfInBounds_toArray, List.set_cons_zero, List.set_cons_succ])
    (refine take_val (i := 5) (v := .agg #[.int .i64 (st : Int), .slice A1 m1 c1, .slice A2 m2 c2]) rfl rfl (by kernel_rfl) (by kernel_rfl) (by kernel_rfl) (fun _ _ _ h => h) rfl (by intro wq hq; (try go_split_ands); go_simp; try with_reducible rfl) (⟨B5.cell 0, B5.cell 1, B5.cell 2⟩) ?_; try simp only [List.setIfInBounds_toArray, List.set_cons_zero, List.set_cons_succ])
    (refine take_val (i := 7) (v := .pointer (some ⟨w2.heap.size, 0, none⟩)) rfl rfl (by kernel_rfl) (by kernel_rfl) (by kernel_rfl) (fun _ _ _ h => h) rfl (by intro wq hq; (try go_split_ands); go_simp; try with_reducible rfl) (⟨B5.cell 0, B5.cell 1, B5.cell 2⟩) ?_; try simp only [List.setIfInBounds_toArray, List.set_cons_zero, List.set_cons_succ])
    (refine take_val (i := 8) (v := .int .i64 (st : Int)) rfl rfl (by kernel_rfl) (by kernel_rfl) (by kernel_rfl) (fun _ _ _ h => h) rfl (by intro wq hq; (try go_split_ands); go_simp; try with_reducible rfl) (⟨B5.cell 0, B5.cell 1, B5.cell 2⟩) ?_; try simp only [List.setIfInBounds_toArray, List.set_cons_zero, List.set_cons_succ])
    (refine wpAnyH_ready (rs := [6]) (by kernel_rfl) (by simp) ?_; refine AllReadyH.cons rfl (fun K hK => ?_) AllReadyH.nil; go_simp)
    refine (c_iLeadsTo _ t _ hT5).mono ?_; rintro e w6 ⟨rfl, hk6⟩
    rw [HLd.out]
    have B6 := B5.kept hk6
    have hkw6 := hkw5.trans hk6
    (refine hK.out _ _ (⟨B6.cell 0, B6.cell 1, B6.cell 2⟩) (fun _ => ?_); clear hK K; try simp only [Act.put, List.setIfInBounds_toArray, List.set_cons_zero, List.set_cons_succ])
    (refine take_val (i := 9) (v := .int .i64 ((L : Int) / 2 ^ st)) rfl rfl (by kernel_rfl) (by kernel_rfl) (by kernel_rfl) (fun _ _ _ h => h) rfl (by intro wq hq; (try go_split_ands); go_simp; try with_reducible rfl) (⟨B6.cell 0, B6.cell 1, B6.cell 2⟩) ?_; try simp only [List.setIfInBounds_toArray, List.set_cons_zero, List.set_cons_succ])
    (refine take_val (i := 10) (v := .int .i64 0) rfl rfl (by kernel_rfl) (by kernel_rfl) (by kernel_rfl) (fun _ _ _ h => h) rfl (by intro wq hq; (try go_split_ands); go_simp; try with_reducible rfl) (⟨B6.cell 0, B6.cell 1, B6.cell 2⟩) ?_; try simp only [List.setIfInBounds_toArray, List.set_cons_zero, List.set_cons_succ])
    (refine take_val (i := 11) (v := .bool false) rfl rfl (by kernel_rfl) (by kernel_rfl) (by kernel_rfl) (fun _ _ _ h => h) rfl (by intro wq hq; (try go_split_ands); go_simp; try with_reducible rfl) (⟨B6.cell 0, B6.cell 1, B6.cell 2⟩) ?_; try simp only [List.setIfInBounds_toArray, List.set_cons_zero, List.set_cons_succ])
    (refine take_val (i := 12) (v := .bool true) rfl rfl (by kernel_rfl) (by kernel_rfl) (by kernel_rfl) (fun _ _ _ h => h) rfl (by intro wq hq; (try go_split_ands); go_simp; try with_reducible rfl) (⟨B6.cell 0, B6.cell 1, B6.cell 2⟩) ?_; try simp only [List.setIfInBounds_toArray, List.set_cons_zero, List.set_cons_succ])
    (refine take_val (i := 13) (v := .bool true) rfl rfl (by kernel_rfl) (by kernel_rfl) (by kernel_rfl) (fun _ _ _ h => h) rfl (by intro wq hq; (try go_split_ands); go_simp; try with_reducible rfl) (⟨B6.cell 0, B6.cell 1, B6.cell 2⟩) ?_; try simp only [List.setIfInBounds_toArray, List.set_cons_zero, List.set_cons_succ])
    (refine take_val (i := 14) (v := .bool true) rfl rfl (by kernel_rfl) (by kernel_rfl) (by kernel_rfl) (fun _ _ _ h => h) rfl (by intro wq hq; (try go_split_ands); go_simp; try with_reducible rfl) (⟨B6.cell 0, B6.cell 1, B6.cell 2⟩) ?_; try simp only [List.setIfInBounds_toArray, List.set_cons_zero, List.set_cons_succ])
    (refine take_val (i := 15) (v := .int .i64 0) rfl rfl (by kernel_rfl) (by kernel_rfl) (by kernel_rfl) (fun _ _ _ h => h) rfl (by intro wq hq; (try go_split_ands); go_simp; try with_reducible rfl) (⟨B6.cell 0, B6.cell 1, B6.cell 2⟩) ?_; try simp only [List.setIfInBounds_toArray, List.set_cons_zero, List.set_cons_succ])
    (refine take_val (i := 16) (v := .bool true) rfl rfl (by kernel_rfl) (by kernel_rfl) (by kernel_rfl) (fun _ _ _ h => h) rfl (by intro wq hq; (try go_split_ands); go_simp; try with_reducible rfl) (⟨B6.cell 0, B6.cell 1, B6.cell 2⟩) ?_; try simp only [List.setIfInBounds_toArray, List.set_cons_zero, List.set_cons_succ])
    (refine take_val (i := 17) (v := .bool true) rfl rfl (by kernel_rfl) (by kernel_rfl) (by kernel_rfl) (fun _ _ _ h => h) rfl (by intro wq hq; (try go_split_ands); go_simp; try with_reducible rfl) (⟨B6.cell 0, B6.cell 1, B6.cell 2⟩) ?_; try simp only [List.setIfInBounds_toArray, List.set_cons_zero, List.set_cons_succ])
    (refine take_val (i := 18) (v := .bool true) rfl rfl (by kernel_rfl) (by kernel_rfl) (by kernel_rfl) (fun _ _ _ h => h) rfl (by intro wq hq; (try go_split_ands); go_simp; try with_reducible rfl) (⟨B6.cell 0, B6.cell 1, B6.cell 2⟩) ?_; try simp only [List.setIfInBounds_toArray, List.set_cons_zero, List.set_cons_succ])
    refine wpAnyH_done (by kernel_rfl) ?_ _
    clear hHeld
    go_wp2_with fail
    go_ret
    exact ⟨rfl, hkw6⟩
  · obtain rfl : y = -1 := by rw [← HY.out]; exact h1
    clear h1
    go_wp2_with fail
    refine (c_alive _).mono ?_; rintro e w5 ⟨rfl, hk5⟩
    go_wp2_with fail
    go_ret
    exact ⟨rfl, hk0.trans hk5⟩

end Go.Proofs.YtphdojebdclonaaGreatDoor
