/- The law FnShadowSteps, walked. No condition. -/
import Derived.Test.YtjmpfemlihjibaaD12
import Derived.Test.YtjmpfemlihjibaaG13
import Derived.Test.YtjmpfemlihjibaaG15
import Derived.Test.YtjmpfemlihjibaaG31
import Derived.Test.YtjmpfemlihjibaaA1
import Derived.Test.YtjmpfemlihjibaaA2
import Derived.Test.YtjmpfemlihjibaaA5
import Derived.Test.YtjmpfemlihjibaaRowB
namespace Go.Proofs.Ytjmpfemlihjibaa
open Go.RowKit

theorem shadowSteps_yes {t : Sp.Task} {f : Nat} (h : Sp.taskOk t = true) (hf : f < 32) : Sp.shadowSteps t (f : Int) = (List.range 32).map (Sp.shade t f) := by
  unfold Sp.shadowSteps
  rw [if_pos ⟨h, by unfold Sp.stOk; simp; omega⟩, Int.toNat_natCast]; rfl
theorem Own.shade {w : World} {g : Nat} {t : Sp.Task} {f : Nat} (h : Own w g 32 ((List.range 32).map (Sp.shade t f))) : IntRow w g 32 (Sp.shade t f) :=
  (h.row (by omega)).congr fun s hs => by simp [List.getD, hs]
theorem or_fin : ∀ a b : Fin 32, (a.val : Int) + b.val - ((a.val &&& b.val : Nat) : Int) = ((a.val ||| b.val : Nat) : Int) := by decide +kernel

set_option maxHeartbeats 2000000 in
set_option maxRecDepth 100000 in
theorem l_ShadowStepsFn (A : Option Addr) (n c : Nat) (A' : Option Addr) (n' c' : Nat) (w : World) (h : BytesV w A n ∧ n ≤ c ∧ c ≤ maxLen) (h' : BytesV w A' n' ∧ n' ≤ c' ∧ c' ≤ maxLen) : Calls Try.prog 7 #[.slice A n c, .slice A' n' c'] w (RetK (.bool true) w) := by
  by_cases hn : 1048576 < n
  · have hn1 : (1048576 : Int) < (n : Int) := by omega
    go_enter Try.func7, Try.ntmps7
    go_wp2_with fail
    go_ret
    exact ⟨rfl, Kept.refl _⟩
  have hn1 : ¬ (1048576 : Int) < (n : Int) := by omega
  by_cases hm : 1048576 < n'
  · have hm1 : (1048576 : Int) < (n' : Int) := by omega
    go_enter Try.func7, Try.ntmps7
    go_wp2_with fail
    go_ret
    exact ⟨rfl, Kept.refl _⟩
  have hm1 : ¬ (1048576 : Int) < (n' : Int) := by omega
  go_enter Try.func7, Try.ntmps7
  go_wp2_with fail
  refine (c_drawShadowSteps A n c w h).mono ?_; rintro e w2 ⟨v, rfl, ⟨tv, q, rfl, hTQ, hq0, hq1⟩, hk2⟩
  obtain ⟨t, hTV, _⟩ := hTQ.task
  obtain ⟨A1, m1, c1, A2, m2, c2, rfl⟩ := hTV.form
  have hk0 := hk2.alloc (.cells #[.int .i64 t.start, .slice A1 m1 c1, .slice A2 m2 c2] 26)
  have hT := hTV.keep ((Kept.refl w2).alloc (.cells #[.int .i64 t.start, .slice A1 m1 c1, .slice A2 m2 c2] 26))
  have B0 := Blk.new w2 26 #[.int .i64 t.start, .slice A1 m1 c1, .slice A2 m2 c2]
  clear hk2 hTV hTQ
  go_wp2_with fail
  refine (c_iShadowSteps _ t q _ hT).mono ?_; rintro e w3 ⟨v, rfl, ⟨A3, c3, rfl, hO⟩, hk3⟩
  replace hk0 := hk0.trans hk3
  replace B0 := B0.kept hk3
  replace hT := hT.keep hk3
  clear hk3
  have c0 := B0.cell
  go_wp2_with fail
  refine (c_sShadowSteps _ t q _ hT).mono ?_; rintro e w4 ⟨v, rfl, ⟨A4, c4, rfl, hO4⟩, hk4⟩
  replace hO := hO.keep hk4
  replace hk0 := hk0.trans hk4
  replace B0 := B0.kept hk4
  replace hT := hT.keep hk4
  clear hk4 c0
  go_wp2_with fail
  refine (c_lsameInts _ _ _ _ _ _ _ _ _ hO.1 hO4.1 rfl).mono ?_; rintro e w5 ⟨rfl, hk5⟩
  replace hO := hO.keep hk5
  replace hk0 := hk0.trans hk5
  replace B0 := B0.kept hk5
  replace hT := hT.keep hk5
  clear hk5 hO4
  have c0 := B0.cell
  by_cases hv : ¬ (Sp.taskOk t = true ∧ Sp.stOk q = true)
  · have HL : Hid ((Sp.shadowSteps t q).length = 0) := by show _ = _; unfold Sp.shadowSteps; rw [if_neg hv]; rfl
    rw [HL.out]
    clear hv hO
    go_wp2_with fail
    refine (c_alive _).mono ?_; rintro e w7 ⟨rfl, hk7⟩
    go_wp2_with fail
    go_ret
    exact ⟨rfl, hk0.trans hk7⟩
  obtain ⟨ht, hq⟩ := Classical.not_not.1 hv
  unfold Sp.stOk at hq
  simp only [decide_eq_true_eq] at hq
  obtain ⟨f, rfl⟩ := Int.eq_ofNat_of_zero_le hq.1
  have hf : f < 32 := by omega
  rw [shadowSteps_yes ht hf] at hO ⊢
  have HL : Hid (((List.range 32).map (Sp.shade t f)).length = 32) := by show _ = _; simp
  have HL2 : Hid ((Sp.stepsLeast t).length = 32) := by show _ = _; rw [stepsLeast_ok ht, distList_len]
  obtain ⟨g, rfl, _, _, hOw⟩ := hO.2 (by rw [HL.out]; omega)
  rw [HL.out] at hOw ⊢
  have hF := hOw.shade
  have HK := Lib.hid ht
  clear hO hOw hv ht hq hq0 hq1
  go_wp2_with fail
  refine (c_iStepsLeast _ t _ hT).mono ?_; rintro e w6 ⟨v, rfl, hS, hk6⟩
  obtain ⟨g2, c5, rfl, hg2, hO2⟩ := outInts_row hS HL2.out
  have hR := hO2.toGo HK.out
  have HGo := Lib.hid (show ∀ s, Sp.dist (Sp.relB t) (Sp.truth t.goal) s = Sp.toGo t s from fun _ => rfl)
  replace hR := hR.congr (f' := Sp.toGo t) fun s _ => HGo.out s
  replace hk0 := hk0.trans hk6
  replace B0 := B0.kept hk6
  replace hT := hT.keep hk6
  replace hF := hF.keep hk6
  clear hk6 c0 hS
  have c0 := B0.cell
  obtain ⟨b, Hb⟩ : ∃ b, Hid (n' * 7 % 32 = b) := ⟨_, rfl⟩
  have hb : b < 32 := by rw [← Hb.out]; omega
  have hw1 : IntKind.i64.wrap ((n' : Int) * 7) = (n' : Int) * 7 := by rw [IntKind.wrap_i64]; omega
  have hw2 : Int.tmod ((n' : Int) * 7) 32 = (b : Int) := by rw [← Hb.out, Int.tmod_eq_emod_of_nonneg (by omega)]; omega
  have hw3 : IntKind.i64.wrap (b : Int) = (b : Int) := by rw [IntKind.wrap_i64]; omega
  have hw4 : IntKind.i64.wrap ((f : Int) + b) = (f : Int) + b := by rw [IntKind.wrap_i64]; omega
  have hor : (f : Int) + b - ((f &&& b : Nat) : Int) = ((f ||| b : Nat) : Int) := or_fin ⟨f, hf⟩ ⟨b, hb⟩
  have hob : f ||| b < 32 := Nat.or_lt_two_pow (n := 5) hf hb
  have hw5 : IntKind.i64.wrap ((f : Int) + b - ((f &&& b : Nat) : Int)) = ((f ||| b : Nat) : Int) := by rw [hor, IntKind.wrap_i64]; omega
  have hw6 : IntKind.i64.wrap ((f ||| b : Nat) : Int) = ((f ||| b : Nat) : Int) := by rw [IntKind.wrap_i64]; omega
  go_wp2_with fail
  have hdz := (Kept.refl w6).drew
  replace B0 := B0.kept hdz
  replace hk0 := hk0.trans hdz
  replace hT := hT.keep hdz
  replace hF := hF.keep hdz
  replace hR := hR.keep hdz
  replace hO2 := hO2.keep hdz
  clear c0
  refine wp_region_held_drew (S := fun w' => w'.cell? ⟨w2.heap.size, 0, none⟩ = some (.int .i64 t.start) ∧ w'.cell? ⟨w2.heap.size, 1, none⟩ = some (.slice A1 m1 c1) ∧ w'.cell? ⟨w2.heap.size, 2, none⟩ = some (.slice A2 m2 c2)) (by kernel_rfl) ⟨B0.cell 0, B0.cell 1, B0.cell 2⟩ (fun hHeld => ?_)
  (refine take_val (i := 0) (v := .agg #[.int .i64 t.start, .slice A1 m1 c1, .slice A2 m2 c2]) rfl rfl (by kernel_rfl) (by kernel_rfl) (by kernel_rfl) (fun _ _ _ h => h) rfl (by intro wq hq; (try go_split_ands); go_simp; try with_reducible rfl) (hHeld) ?_; simp only [List.setIfInBounds_toArray, List.set_cons_zero, List.set_cons_succ])
  (refine take_val (i := 1) (v := .int .i64 f) rfl rfl (by kernel_rfl) (by kernel_rfl) (by kernel_rfl) (fun _ _ _ h => h) rfl (by intro wq hq; (try go_split_ands); go_simp; try with_reducible rfl) (hHeld) ?_; simp only [List.setIfInBounds_toArray, List.set_cons_zero, List.set_cons_succ])
  (refine take_val (i := 2) (v := .int .i64 b) rfl rfl (by kernel_rfl) (by kernel_rfl) (by kernel_rfl) (fun _ _ _ h => h) rfl (by intro wq hq; (try go_split_ands); go_simp; try with_reducible rfl) (hHeld) ?_; simp only [List.setIfInBounds_toArray, List.set_cons_zero, List.set_cons_succ])
  (refine take_val (i := 3) (v := .int .i64 ((f : Int) + b)) rfl rfl (by kernel_rfl) (by kernel_rfl) (by kernel_rfl) (fun _ _ _ h => h) rfl (by intro wq hq; (try go_split_ands); go_simp; try with_reducible rfl) (hHeld) ?_; simp only [List.setIfInBounds_toArray, List.set_cons_zero, List.set_cons_succ])
  (refine take_val (i := 4) (v := .int .i64 f) rfl rfl (by kernel_rfl) (by kernel_rfl) (by kernel_rfl) (fun _ _ _ h => h) rfl (by intro wq hq; (try go_split_ands); go_simp; try with_reducible rfl) (hHeld) ?_; simp only [List.setIfInBounds_toArray, List.set_cons_zero, List.set_cons_succ])
  (refine take_val (i := 5) (v := .int .i64 b) rfl rfl (by kernel_rfl) (by kernel_rfl) (by kernel_rfl) (fun _ _ _ h => h) rfl (by intro wq hq; (try go_split_ands); go_simp; try with_reducible rfl) (hHeld) ?_; simp only [List.setIfInBounds_toArray, List.set_cons_zero, List.set_cons_succ])
  (refine wpAnyH_ready (rs := [6]) (by kernel_rfl) (by simp) ?_; refine AllReadyH.cons rfl (fun K hK => ?_) AllReadyH.nil; go_simp)
  refine (c_lboth f b _ (by omega) (by omega)).mono ?_; rintro e w7 ⟨rfl, rfl⟩
  (refine hK.out _ _ (hHeld) (fun _ => ?_); clear hK K; try simp only [Act.put, List.setIfInBounds_toArray, List.set_cons_zero, List.set_cons_succ])
  (refine take_val (i := 7) (v := .int .i64 ((f ||| b : Nat) : Int)) rfl rfl (by kernel_rfl) (by kernel_rfl) (by kernel_rfl) (fun _ _ _ h => h) rfl (by intro wq hq; (try go_split_ands); go_simp; try with_reducible rfl) (hHeld) ?_; simp only [List.setIfInBounds_toArray, List.set_cons_zero, List.set_cons_succ])
  (refine wpAnyH_ready (rs := [8]) (by kernel_rfl) (by simp) ?_; refine AllReadyH.cons rfl (fun K hK => ?_) AllReadyH.nil; go_simp)
  refine (c_iShadowSteps _ t ((f ||| b : Nat) : Int) _ hT).mono ?_; rintro e w8 ⟨v, rfl, hS, hk8⟩
  rw [shadowSteps_yes HK.out hob] at hS
  obtain ⟨g3, c6, rfl, hg3, hO3⟩ := outInts_row hS (by simp)
  have hW := hO3.shade
  replace hk0 := hk0.trans hk8
  replace B0 := B0.kept hk8
  replace hT := hT.keep hk8
  replace hF := hF.keep hk8
  replace hR := hR.keep hk8
  replace hO2 := hO2.keep hk8
  clear hk8 hS hHeld hdz
  have hHeld : w8.cell? ⟨w2.heap.size, 0, none⟩ = some (.int .i64 t.start) ∧ w8.cell? ⟨w2.heap.size, 1, none⟩ = some (.slice A1 m1 c1) ∧ w8.cell? ⟨w2.heap.size, 2, none⟩ = some (.slice A2 m2 c2) := ⟨B0.cell 0, B0.cell 1, B0.cell 2⟩
  (refine hK.out _ _ (hHeld) (fun _ => ?_); clear hK K; try simp only [Act.put, List.setIfInBounds_toArray, List.set_cons_zero, List.set_cons_succ])
  (refine take_val (i := 9) (v := .slice (some ⟨g3, 0, none⟩) 32 c6) rfl rfl (by kernel_rfl) (by kernel_rfl) (by kernel_rfl) (fun _ _ _ h => h) rfl (by intro wq hq; (try go_split_ands); go_simp; try with_reducible rfl) (hHeld) ?_; simp only [List.setIfInBounds_toArray, List.set_cons_zero, List.set_cons_succ])
  refine wpAnyH_done (by kernel_rfl) ?_ _
  have HA := Lib.hid (fun s (hs : s < 32) (h0 : 0 ≤ Sp.toGo t s) => shade_toGo t f hs h0)
  have HBW := Lib.hid (fun s (hs : s < 32) (h0 : 0 ≤ Sp.shade t (f ||| b) s) => shade_less t f b hs h0)
  clear hHeld hw1 hw2 hw3 hw4 hw5 hor
  go_wp2_with fail
  go_loopw [11] (fun i wr => ∃ j : Nat, j ≤ 32 ∧ i = .int .i64 j ∧ Kept w8 wr) (fun i _ => 32 - (intOf i).toNat)
  case atStart => exact ⟨0, by omega, rfl, Kept.refl _⟩
  case round =>
    obtain ⟨j, hj, rfl, hkp⟩ := hrel
    by_cases hlt : j < 32
    · have hA := HA.out j hlt
      have hB := HBW.out j hlt
      obtain ⟨x, HX⟩ : ∃ x, Hid (Sp.shade t f j = x) := ⟨_, rfl⟩
      obtain ⟨y, HY⟩ : ∃ y, Hid (Sp.toGo t j = y) := ⟨_, rfl⟩
      obtain ⟨z, HZ⟩ : ∃ z, Hid (Sp.shade t (f ||| b) j = z) := ⟨_, rfl⟩
      rw [HX.out, HY.out] at hA
      rw [HX.out, HZ.out] at hB
      go_wp2_with fail
      have cx := (hF.keep hkp.drew).2.2 j hlt
      have cy := (hR.keep hkp.drew).2.2 j hlt
      have cz := (hW.keep hkp.drew).2.2 j hlt
      rw [HX.out] at cx
      rw [HY.out] at cy
      rw [HZ.out] at cz
      refine wp_region_held_drew (S := fun w' => w'.cell? ⟨g, j, none⟩ = some (.int .i64 x) ∧ w'.cell? ⟨g2, j, none⟩ = some (.int .i64 y) ∧ w'.cell? ⟨g3, j, none⟩ = some (.int .i64 z)) (by kernel_rfl) ⟨cx, cy, cz⟩ (fun hHeld => ?_)
      by_cases hy : 0 ≤ y
      · obtain ⟨hx0, hx1⟩ := hA hy
        have hx2 : ¬ x < 0 := by omega
        have hx3 : ¬ y < x := by omega
        (refine take_val (i := 0) (v := .slice (some ⟨g2, 0, none⟩) 32 c5) rfl rfl (by kernel_rfl) (by kernel_rfl) (by kernel_rfl) (fun _ _ _ h => h) rfl (by intro wq hq; (try go_split_ands); go_simp; try with_reducible rfl) (hHeld) ?_; simp only [List.setIfInBounds_toArray, List.set_cons_zero, List.set_cons_succ])
        (refine take_val (i := 1) (v := .int .i64 j) rfl rfl (by kernel_rfl) (by kernel_rfl) (by kernel_rfl) (fun _ _ _ h => h) rfl (by intro wq hq; (try go_split_ands); go_simp; try with_reducible rfl) (hHeld) ?_; simp only [List.setIfInBounds_toArray, List.set_cons_zero, List.set_cons_succ])
        (refine take_val (i := 2) (v := .pointer (some ⟨g2, j, none⟩)) rfl rfl (by kernel_rfl) (by kernel_rfl) (by kernel_rfl) (fun _ _ _ h => h) rfl (by intro wq hq; (try go_split_ands); go_simp; try with_reducible rfl) (hHeld) ?_; simp only [List.setIfInBounds_toArray, List.set_cons_zero, List.set_cons_succ])
        (refine take_val (i := 3) (v := .int .i64 y) rfl rfl (by kernel_rfl) (by kernel_rfl) (by kernel_rfl) (fun _ _ _ h => h) rfl (by intro wq hq; (try go_split_ands); go_simp; try with_reducible rfl) (hHeld) ?_; simp only [List.setIfInBounds_toArray, List.set_cons_zero, List.set_cons_succ])
        (refine take_val (i := 4) (v := .bool true) rfl rfl (by kernel_rfl) (by kernel_rfl) (by kernel_rfl) (fun _ _ _ h => h) rfl (by intro wq hq; (try go_split_ands); go_simp; try with_reducible rfl) (hHeld) ?_; simp only [List.setIfInBounds_toArray, List.set_cons_zero, List.set_cons_succ])
        (refine take_val (i := 5) (v := .bool true) rfl rfl (by kernel_rfl) (by kernel_rfl) (by kernel_rfl) (fun _ _ _ h => h) rfl (by intro wq hq; (try go_split_ands); go_simp; try with_reducible rfl) (hHeld) ?_; simp only [List.setIfInBounds_toArray, List.set_cons_zero, List.set_cons_succ])
        (refine take_val (i := 6) (v := .slice (some ⟨g, 0, none⟩) 32 c3) rfl rfl (by kernel_rfl) (by kernel_rfl) (by kernel_rfl) (fun _ _ _ h => h) rfl (by intro wq hq; (try go_split_ands); go_simp; try with_reducible rfl) (hHeld) ?_; simp only [List.setIfInBounds_toArray, List.set_cons_zero, List.set_cons_succ])
        (refine take_val (i := 7) (v := .int .i64 j) rfl rfl (by kernel_rfl) (by kernel_rfl) (by kernel_rfl) (fun _ _ _ h => h) rfl (by intro wq hq; (try go_split_ands); go_simp; try with_reducible rfl) (hHeld) ?_; simp only [List.setIfInBounds_toArray, List.set_cons_zero, List.set_cons_succ])
        (refine take_val (i := 8) (v := .pointer (some ⟨g, j, none⟩)) rfl rfl (by kernel_rfl) (by kernel_rfl) (by kernel_rfl) (fun _ _ _ h => h) rfl (by intro wq hq; (try go_split_ands); go_simp; try with_reducible rfl) (hHeld) ?_; simp only [List.setIfInBounds_toArray, List.set_cons_zero, List.set_cons_succ])
        (refine take_val (i := 9) (v := .int .i64 x) rfl rfl (by kernel_rfl) (by kernel_rfl) (by kernel_rfl) (fun _ _ _ h => h) rfl (by intro wq hq; (try go_split_ands); go_simp; try with_reducible rfl) (hHeld) ?_; simp only [List.setIfInBounds_toArray, List.set_cons_zero, List.set_cons_succ])
        (refine take_val (i := 10) (v := .bool false) rfl rfl (by kernel_rfl) (by kernel_rfl) (by kernel_rfl) (fun _ _ _ h => h) rfl (by intro wq hq; (try go_split_ands); go_simp; try with_reducible rfl) (hHeld) ?_; simp only [List.setIfInBounds_toArray, List.set_cons_zero, List.set_cons_succ])
        (refine take_val (i := 11) (v := .bool false) rfl rfl (by kernel_rfl) (by kernel_rfl) (by kernel_rfl) (fun _ _ _ h => h) rfl (by intro wq hq; (try go_split_ands); go_simp; try with_reducible rfl) (hHeld) ?_; simp only [List.setIfInBounds_toArray, List.set_cons_zero, List.set_cons_succ])
        (refine take_val (i := 12) (v := .slice (some ⟨g, 0, none⟩) 32 c3) rfl rfl (by kernel_rfl) (by kernel_rfl) (by kernel_rfl) (fun _ _ _ h => h) rfl (by intro wq hq; (try go_split_ands); go_simp; try with_reducible rfl) (hHeld) ?_; simp only [List.setIfInBounds_toArray, List.set_cons_zero, List.set_cons_succ])
        (refine take_val (i := 13) (v := .int .i64 j) rfl rfl (by kernel_rfl) (by kernel_rfl) (by kernel_rfl) (fun _ _ _ h => h) rfl (by intro wq hq; (try go_split_ands); go_simp; try with_reducible rfl) (hHeld) ?_; simp only [List.setIfInBounds_toArray, List.set_cons_zero, List.set_cons_succ])
        (refine take_val (i := 14) (v := .pointer (some ⟨g, j, none⟩)) rfl rfl (by kernel_rfl) (by kernel_rfl) (by kernel_rfl) (fun _ _ _ h => h) rfl (by intro wq hq; (try go_split_ands); go_simp; try with_reducible rfl) (hHeld) ?_; simp only [List.setIfInBounds_toArray, List.set_cons_zero, List.set_cons_succ])
        (refine take_val (i := 15) (v := .int .i64 x) rfl rfl (by kernel_rfl) (by kernel_rfl) (by kernel_rfl) (fun _ _ _ h => h) rfl (by intro wq hq; (try go_split_ands); go_simp; try with_reducible rfl) (hHeld) ?_; simp only [List.setIfInBounds_toArray, List.set_cons_zero, List.set_cons_succ])
        (refine take_val (i := 16) (v := .slice (some ⟨g2, 0, none⟩) 32 c5) rfl rfl (by kernel_rfl) (by kernel_rfl) (by kernel_rfl) (fun _ _ _ h => h) rfl (by intro wq hq; (try go_split_ands); go_simp; try with_reducible rfl) (hHeld) ?_; simp only [List.setIfInBounds_toArray, List.set_cons_zero, List.set_cons_succ])
        (refine take_val (i := 17) (v := .int .i64 j) rfl rfl (by kernel_rfl) (by kernel_rfl) (by kernel_rfl) (fun _ _ _ h => h) rfl (by intro wq hq; (try go_split_ands); go_simp; try with_reducible rfl) (hHeld) ?_; simp only [List.setIfInBounds_toArray, List.set_cons_zero, List.set_cons_succ])
        (refine take_val (i := 18) (v := .pointer (some ⟨g2, j, none⟩)) rfl rfl (by kernel_rfl) (by kernel_rfl) (by kernel_rfl) (fun _ _ _ h => h) rfl (by intro wq hq; (try go_split_ands); go_simp; try with_reducible rfl) (hHeld) ?_; simp only [List.setIfInBounds_toArray, List.set_cons_zero, List.set_cons_succ])
        (refine take_val (i := 19) (v := .int .i64 y) rfl rfl (by kernel_rfl) (by kernel_rfl) (by kernel_rfl) (fun _ _ _ h => h) rfl (by intro wq hq; (try go_split_ands); go_simp; try with_reducible rfl) (hHeld) ?_; simp only [List.setIfInBounds_toArray, List.set_cons_zero, List.set_cons_succ])
        (refine take_val (i := 20) (v := .bool false) rfl rfl (by kernel_rfl) (by kernel_rfl) (by kernel_rfl) (fun _ _ _ h => h) rfl (by intro wq hq; (try go_split_ands); go_simp; try with_reducible rfl) (hHeld) ?_; simp only [List.setIfInBounds_toArray, List.set_cons_zero, List.set_cons_succ])
        (refine take_val (i := 21) (v := .bool false) rfl rfl (by kernel_rfl) (by kernel_rfl) (by kernel_rfl) (fun _ _ _ h => h) rfl (by intro wq hq; (try go_split_ands); go_simp; try with_reducible rfl) (hHeld) ?_; simp only [List.setIfInBounds_toArray, List.set_cons_zero, List.set_cons_succ])
        (refine take_val (i := 22) (v := .bool false) rfl rfl (by kernel_rfl) (by kernel_rfl) (by kernel_rfl) (fun _ _ _ h => h) rfl (by intro wq hq; (try go_split_ands); go_simp; try with_reducible rfl) (hHeld) ?_; simp only [List.setIfInBounds_toArray, List.set_cons_zero, List.set_cons_succ])
        (refine take_val (i := 23) (v := .bool false) rfl rfl (by kernel_rfl) (by kernel_rfl) (by kernel_rfl) (fun _ _ _ h => h) rfl (by intro wq hq; (try go_split_ands); go_simp; try with_reducible rfl) (hHeld) ?_; simp only [List.setIfInBounds_toArray, List.set_cons_zero, List.set_cons_succ])
        by_cases hz : 0 ≤ z
        · obtain ⟨_, hx4⟩ := hB hz
          have hx5 : ¬ z < x := by omega
          (refine take_val (i := 24) (v := .slice (some ⟨g3, 0, none⟩) 32 c6) rfl rfl (by kernel_rfl) (by kernel_rfl) (by kernel_rfl) (fun _ _ _ h => h) rfl (by intro wq hq; (try go_split_ands); go_simp; try with_reducible rfl) (hHeld) ?_; simp only [List.setIfInBounds_toArray, List.set_cons_zero, List.set_cons_succ])
          (refine take_val (i := 25) (v := .int .i64 j) rfl rfl (by kernel_rfl) (by kernel_rfl) (by kernel_rfl) (fun _ _ _ h => h) rfl (by intro wq hq; (try go_split_ands); go_simp; try with_reducible rfl) (hHeld) ?_; simp only [List.setIfInBounds_toArray, List.set_cons_zero, List.set_cons_succ])
          (refine take_val (i := 26) (v := .pointer (some ⟨g3, j, none⟩)) rfl rfl (by kernel_rfl) (by kernel_rfl) (by kernel_rfl) (fun _ _ _ h => h) rfl (by intro wq hq; (try go_split_ands); go_simp; try with_reducible rfl) (hHeld) ?_; simp only [List.setIfInBounds_toArray, List.set_cons_zero, List.set_cons_succ])
          (refine take_val (i := 27) (v := .int .i64 z) rfl rfl (by kernel_rfl) (by kernel_rfl) (by kernel_rfl) (fun _ _ _ h => h) rfl (by intro wq hq; (try go_split_ands); go_simp; try with_reducible rfl) (hHeld) ?_; simp only [List.setIfInBounds_toArray, List.set_cons_zero, List.set_cons_succ])
          (refine take_val (i := 28) (v := .bool true) rfl rfl (by kernel_rfl) (by kernel_rfl) (by kernel_rfl) (fun _ _ _ h => h) rfl (by intro wq hq; (try go_split_ands); go_simp; try with_reducible rfl) (hHeld) ?_; simp only [List.setIfInBounds_toArray, List.set_cons_zero, List.set_cons_succ])
          (refine take_val (i := 29) (v := .bool true) rfl rfl (by kernel_rfl) (by kernel_rfl) (by kernel_rfl) (fun _ _ _ h => h) rfl (by intro wq hq; (try go_split_ands); go_simp; try with_reducible rfl) (hHeld) ?_; simp only [List.setIfInBounds_toArray, List.set_cons_zero, List.set_cons_succ])
          (refine take_val (i := 30) (v := .slice (some ⟨g, 0, none⟩) 32 c3) rfl rfl (by kernel_rfl) (by kernel_rfl) (by kernel_rfl) (fun _ _ _ h => h) rfl (by intro wq hq; (try go_split_ands); go_simp; try with_reducible rfl) (hHeld) ?_; simp only [List.setIfInBounds_toArray, List.set_cons_zero, List.set_cons_succ])
          (refine take_val (i := 31) (v := .int .i64 j) rfl rfl (by kernel_rfl) (by kernel_rfl) (by kernel_rfl) (fun _ _ _ h => h) rfl (by intro wq hq; (try go_split_ands); go_simp; try with_reducible rfl) (hHeld) ?_; simp only [List.setIfInBounds_toArray, List.set_cons_zero, List.set_cons_succ])
          (refine take_val (i := 32) (v := .pointer (some ⟨g, j, none⟩)) rfl rfl (by kernel_rfl) (by kernel_rfl) (by kernel_rfl) (fun _ _ _ h => h) rfl (by intro wq hq; (try go_split_ands); go_simp; try with_reducible rfl) (hHeld) ?_; simp only [List.setIfInBounds_toArray, List.set_cons_zero, List.set_cons_succ])
          (refine take_val (i := 33) (v := .int .i64 x) rfl rfl (by kernel_rfl) (by kernel_rfl) (by kernel_rfl) (fun _ _ _ h => h) rfl (by intro wq hq; (try go_split_ands); go_simp; try with_reducible rfl) (hHeld) ?_; simp only [List.setIfInBounds_toArray, List.set_cons_zero, List.set_cons_succ])
          (refine take_val (i := 34) (v := .bool false) rfl rfl (by kernel_rfl) (by kernel_rfl) (by kernel_rfl) (fun _ _ _ h => h) rfl (by intro wq hq; (try go_split_ands); go_simp; try with_reducible rfl) (hHeld) ?_; simp only [List.setIfInBounds_toArray, List.set_cons_zero, List.set_cons_succ])
          (refine take_val (i := 35) (v := .bool false) rfl rfl (by kernel_rfl) (by kernel_rfl) (by kernel_rfl) (fun _ _ _ h => h) rfl (by intro wq hq; (try go_split_ands); go_simp; try with_reducible rfl) (hHeld) ?_; simp only [List.setIfInBounds_toArray, List.set_cons_zero, List.set_cons_succ])
          (refine take_val (i := 36) (v := .slice (some ⟨g, 0, none⟩) 32 c3) rfl rfl (by kernel_rfl) (by kernel_rfl) (by kernel_rfl) (fun _ _ _ h => h) rfl (by intro wq hq; (try go_split_ands); go_simp; try with_reducible rfl) (hHeld) ?_; simp only [List.setIfInBounds_toArray, List.set_cons_zero, List.set_cons_succ])
          (refine take_val (i := 37) (v := .int .i64 j) rfl rfl (by kernel_rfl) (by kernel_rfl) (by kernel_rfl) (fun _ _ _ h => h) rfl (by intro wq hq; (try go_split_ands); go_simp; try with_reducible rfl) (hHeld) ?_; simp only [List.setIfInBounds_toArray, List.set_cons_zero, List.set_cons_succ])
          (refine take_val (i := 38) (v := .pointer (some ⟨g, j, none⟩)) rfl rfl (by kernel_rfl) (by kernel_rfl) (by kernel_rfl) (fun _ _ _ h => h) rfl (by intro wq hq; (try go_split_ands); go_simp; try with_reducible rfl) (hHeld) ?_; simp only [List.setIfInBounds_toArray, List.set_cons_zero, List.set_cons_succ])
          (refine take_val (i := 39) (v := .int .i64 x) rfl rfl (by kernel_rfl) (by kernel_rfl) (by kernel_rfl) (fun _ _ _ h => h) rfl (by intro wq hq; (try go_split_ands); go_simp; try with_reducible rfl) (hHeld) ?_; simp only [List.setIfInBounds_toArray, List.set_cons_zero, List.set_cons_succ])
          (refine take_val (i := 40) (v := .slice (some ⟨g3, 0, none⟩) 32 c6) rfl rfl (by kernel_rfl) (by kernel_rfl) (by kernel_rfl) (fun _ _ _ h => h) rfl (by intro wq hq; (try go_split_ands); go_simp; try with_reducible rfl) (hHeld) ?_; simp only [List.setIfInBounds_toArray, List.set_cons_zero, List.set_cons_succ])
          (refine take_val (i := 41) (v := .int .i64 j) rfl rfl (by kernel_rfl) (by kernel_rfl) (by kernel_rfl) (fun _ _ _ h => h) rfl (by intro wq hq; (try go_split_ands); go_simp; try with_reducible rfl) (hHeld) ?_; simp only [List.setIfInBounds_toArray, List.set_cons_zero, List.set_cons_succ])
          (refine take_val (i := 42) (v := .pointer (some ⟨g3, j, none⟩)) rfl rfl (by kernel_rfl) (by kernel_rfl) (by kernel_rfl) (fun _ _ _ h => h) rfl (by intro wq hq; (try go_split_ands); go_simp; try with_reducible rfl) (hHeld) ?_; simp only [List.setIfInBounds_toArray, List.set_cons_zero, List.set_cons_succ])
          (refine take_val (i := 43) (v := .int .i64 z) rfl rfl (by kernel_rfl) (by kernel_rfl) (by kernel_rfl) (fun _ _ _ h => h) rfl (by intro wq hq; (try go_split_ands); go_simp; try with_reducible rfl) (hHeld) ?_; simp only [List.setIfInBounds_toArray, List.set_cons_zero, List.set_cons_succ])
          (refine take_val (i := 44) (v := .bool false) rfl rfl (by kernel_rfl) (by kernel_rfl) (by kernel_rfl) (fun _ _ _ h => h) rfl (by intro wq hq; (try go_split_ands); go_simp; try with_reducible rfl) (hHeld) ?_; simp only [List.setIfInBounds_toArray, List.set_cons_zero, List.set_cons_succ])
          (refine take_val (i := 45) (v := .bool false) rfl rfl (by kernel_rfl) (by kernel_rfl) (by kernel_rfl) (fun _ _ _ h => h) rfl (by intro wq hq; (try go_split_ands); go_simp; try with_reducible rfl) (hHeld) ?_; simp only [List.setIfInBounds_toArray, List.set_cons_zero, List.set_cons_succ])
          (refine take_val (i := 46) (v := .bool false) rfl rfl (by kernel_rfl) (by kernel_rfl) (by kernel_rfl) (fun _ _ _ h => h) rfl (by intro wq hq; (try go_split_ands); go_simp; try with_reducible rfl) (hHeld) ?_; simp only [List.setIfInBounds_toArray, List.set_cons_zero, List.set_cons_succ])
          (refine take_val (i := 47) (v := .bool false) rfl rfl (by kernel_rfl) (by kernel_rfl) (by kernel_rfl) (fun _ _ _ h => h) rfl (by intro wq hq; (try go_split_ands); go_simp; try with_reducible rfl) (hHeld) ?_; simp only [List.setIfInBounds_toArray, List.set_cons_zero, List.set_cons_succ])
          refine wpAnyH_done (by kernel_rfl) ?_ _
          clear cx cy cz hHeld
          go_wp2_with fail
          exact ⟨⟨j + 1, by omega, by go_num, hkp.drew⟩, by simp [intOf]; omega⟩
        · (refine take_val (i := 24) (v := .slice (some ⟨g3, 0, none⟩) 32 c6) rfl rfl (by kernel_rfl) (by kernel_rfl) (by kernel_rfl) (fun _ _ _ h => h) rfl (by intro wq hq; (try go_split_ands); go_simp; try with_reducible rfl) (hHeld) ?_; simp only [List.setIfInBounds_toArray, List.set_cons_zero, List.set_cons_succ])
          (refine take_val (i := 25) (v := .int .i64 j) rfl rfl (by kernel_rfl) (by kernel_rfl) (by kernel_rfl) (fun _ _ _ h => h) rfl (by intro wq hq; (try go_split_ands); go_simp; try with_reducible rfl) (hHeld) ?_; simp only [List.setIfInBounds_toArray, List.set_cons_zero, List.set_cons_succ])
          (refine take_val (i := 26) (v := .pointer (some ⟨g3, j, none⟩)) rfl rfl (by kernel_rfl) (by kernel_rfl) (by kernel_rfl) (fun _ _ _ h => h) rfl (by intro wq hq; (try go_split_ands); go_simp; try with_reducible rfl) (hHeld) ?_; simp only [List.setIfInBounds_toArray, List.set_cons_zero, List.set_cons_succ])
          (refine take_val (i := 27) (v := .int .i64 z) rfl rfl (by kernel_rfl) (by kernel_rfl) (by kernel_rfl) (fun _ _ _ h => h) rfl (by intro wq hq; (try go_split_ands); go_simp; try with_reducible rfl) (hHeld) ?_; simp only [List.setIfInBounds_toArray, List.set_cons_zero, List.set_cons_succ])
          (refine take_val (i := 28) (v := .bool false) rfl rfl (by kernel_rfl) (by kernel_rfl) (by kernel_rfl) (fun _ _ _ h => h) rfl (by intro wq hq; (try go_split_ands); go_simp; try with_reducible rfl) (hHeld) ?_; simp only [List.setIfInBounds_toArray, List.set_cons_zero, List.set_cons_succ])
          (refine take_val (i := 29) (v := .bool false) rfl rfl (by kernel_rfl) (by kernel_rfl) (by kernel_rfl) (fun _ _ _ h => h) rfl (by intro wq hq; (try go_split_ands); go_simp; try with_reducible rfl) (hHeld) ?_; simp only [List.setIfInBounds_toArray, List.set_cons_zero, List.set_cons_succ])
          (refine take_skip (i := 30) rfl rfl (by kernel_rfl) (by kernel_rfl) (by kernel_rfl) (fun _ _ _ h => h) rfl (hHeld) ?_; simp only [List.setIfInBounds_toArray, List.set_cons_zero, List.set_cons_succ])
          (refine take_skip (i := 31) rfl rfl (by kernel_rfl) (by kernel_rfl) (by kernel_rfl) (fun _ _ _ h => h) rfl (hHeld) ?_; simp only [List.setIfInBounds_toArray, List.set_cons_zero, List.set_cons_succ])
          (refine take_skip (i := 32) rfl rfl (by kernel_rfl) (by kernel_rfl) (by kernel_rfl) (fun _ _ _ h => h) rfl (hHeld) ?_; simp only [List.setIfInBounds_toArray, List.set_cons_zero, List.set_cons_succ])
          (refine take_skip (i := 33) rfl rfl (by kernel_rfl) (by kernel_rfl) (by kernel_rfl) (fun _ _ _ h => h) rfl (hHeld) ?_; simp only [List.setIfInBounds_toArray, List.set_cons_zero, List.set_cons_succ])
          (refine take_skip (i := 34) rfl rfl (by kernel_rfl) (by kernel_rfl) (by kernel_rfl) (fun _ _ _ h => h) rfl (hHeld) ?_; simp only [List.setIfInBounds_toArray, List.set_cons_zero, List.set_cons_succ])
          (refine take_skip (i := 35) rfl rfl (by kernel_rfl) (by kernel_rfl) (by kernel_rfl) (fun _ _ _ h => h) rfl (hHeld) ?_; simp only [List.setIfInBounds_toArray, List.set_cons_zero, List.set_cons_succ])
          (refine take_skip (i := 36) rfl rfl (by kernel_rfl) (by kernel_rfl) (by kernel_rfl) (fun _ _ _ h => h) rfl (hHeld) ?_; simp only [List.setIfInBounds_toArray, List.set_cons_zero, List.set_cons_succ])
          (refine take_skip (i := 37) rfl rfl (by kernel_rfl) (by kernel_rfl) (by kernel_rfl) (fun _ _ _ h => h) rfl (hHeld) ?_; simp only [List.setIfInBounds_toArray, List.set_cons_zero, List.set_cons_succ])
          (refine take_skip (i := 38) rfl rfl (by kernel_rfl) (by kernel_rfl) (by kernel_rfl) (fun _ _ _ h => h) rfl (hHeld) ?_; simp only [List.setIfInBounds_toArray, List.set_cons_zero, List.set_cons_succ])
          (refine take_skip (i := 39) rfl rfl (by kernel_rfl) (by kernel_rfl) (by kernel_rfl) (fun _ _ _ h => h) rfl (hHeld) ?_; simp only [List.setIfInBounds_toArray, List.set_cons_zero, List.set_cons_succ])
          (refine take_skip (i := 40) rfl rfl (by kernel_rfl) (by kernel_rfl) (by kernel_rfl) (fun _ _ _ h => h) rfl (hHeld) ?_; simp only [List.setIfInBounds_toArray, List.set_cons_zero, List.set_cons_succ])
          (refine take_skip (i := 41) rfl rfl (by kernel_rfl) (by kernel_rfl) (by kernel_rfl) (fun _ _ _ h => h) rfl (hHeld) ?_; simp only [List.setIfInBounds_toArray, List.set_cons_zero, List.set_cons_succ])
          (refine take_skip (i := 42) rfl rfl (by kernel_rfl) (by kernel_rfl) (by kernel_rfl) (fun _ _ _ h => h) rfl (hHeld) ?_; simp only [List.setIfInBounds_toArray, List.set_cons_zero, List.set_cons_succ])
          (refine take_skip (i := 43) rfl rfl (by kernel_rfl) (by kernel_rfl) (by kernel_rfl) (fun _ _ _ h => h) rfl (hHeld) ?_; simp only [List.setIfInBounds_toArray, List.set_cons_zero, List.set_cons_succ])
          (refine take_skip (i := 44) rfl rfl (by kernel_rfl) (by kernel_rfl) (by kernel_rfl) (fun _ _ _ h => h) rfl (hHeld) ?_; simp only [List.setIfInBounds_toArray, List.set_cons_zero, List.set_cons_succ])
          (refine take_skip (i := 45) rfl rfl (by kernel_rfl) (by kernel_rfl) (by kernel_rfl) (fun _ _ _ h => h) rfl (hHeld) ?_; simp only [List.setIfInBounds_toArray, List.set_cons_zero, List.set_cons_succ])
          (refine take_val (i := 46) (v := .bool false) rfl rfl (by kernel_rfl) (by kernel_rfl) (by kernel_rfl) (fun _ _ _ h => h) rfl (by intro wq hq; (try go_split_ands); go_simp; try with_reducible rfl) (hHeld) ?_; simp only [List.setIfInBounds_toArray, List.set_cons_zero, List.set_cons_succ])
          (refine take_val (i := 47) (v := .bool false) rfl rfl (by kernel_rfl) (by kernel_rfl) (by kernel_rfl) (fun _ _ _ h => h) rfl (by intro wq hq; (try go_split_ands); go_simp; try with_reducible rfl) (hHeld) ?_; simp only [List.setIfInBounds_toArray, List.set_cons_zero, List.set_cons_succ])
          refine wpAnyH_done (by kernel_rfl) ?_ _
          clear cx cy cz hHeld
          go_wp2_with fail
          exact ⟨⟨j + 1, by omega, by go_num, hkp.drew⟩, by simp [intOf]; omega⟩
      · (refine take_val (i := 0) (v := .slice (some ⟨g2, 0, none⟩) 32 c5) rfl rfl (by kernel_rfl) (by kernel_rfl) (by kernel_rfl) (fun _ _ _ h => h) rfl (by intro wq hq; (try go_split_ands); go_simp; try with_reducible rfl) (hHeld) ?_; simp only [List.setIfInBounds_toArray, List.set_cons_zero, List.set_cons_succ])
        (refine take_val (i := 1) (v := .int .i64 j) rfl rfl (by kernel_rfl) (by kernel_rfl) (by kernel_rfl) (fun _ _ _ h => h) rfl (by intro wq hq; (try go_split_ands); go_simp; try with_reducible rfl) (hHeld) ?_; simp only [List.setIfInBounds_toArray, List.set_cons_zero, List.set_cons_succ])
        (refine take_val (i := 2) (v := .pointer (some ⟨g2, j, none⟩)) rfl rfl (by kernel_rfl) (by kernel_rfl) (by kernel_rfl) (fun _ _ _ h => h) rfl (by intro wq hq; (try go_split_ands); go_simp; try with_reducible rfl) (hHeld) ?_; simp only [List.setIfInBounds_toArray, List.set_cons_zero, List.set_cons_succ])
        (refine take_val (i := 3) (v := .int .i64 y) rfl rfl (by kernel_rfl) (by kernel_rfl) (by kernel_rfl) (fun _ _ _ h => h) rfl (by intro wq hq; (try go_split_ands); go_simp; try with_reducible rfl) (hHeld) ?_; simp only [List.setIfInBounds_toArray, List.set_cons_zero, List.set_cons_succ])
        (refine take_val (i := 4) (v := .bool false) rfl rfl (by kernel_rfl) (by kernel_rfl) (by kernel_rfl) (fun _ _ _ h => h) rfl (by intro wq hq; (try go_split_ands); go_simp; try with_reducible rfl) (hHeld) ?_; simp only [List.setIfInBounds_toArray, List.set_cons_zero, List.set_cons_succ])
        (refine take_val (i := 5) (v := .bool false) rfl rfl (by kernel_rfl) (by kernel_rfl) (by kernel_rfl) (fun _ _ _ h => h) rfl (by intro wq hq; (try go_split_ands); go_simp; try with_reducible rfl) (hHeld) ?_; simp only [List.setIfInBounds_toArray, List.set_cons_zero, List.set_cons_succ])
        (refine take_skip (i := 6) rfl rfl (by kernel_rfl) (by kernel_rfl) (by kernel_rfl) (fun _ _ _ h => h) rfl (hHeld) ?_; simp only [List.setIfInBounds_toArray, List.set_cons_zero, List.set_cons_succ])
        (refine take_skip (i := 7) rfl rfl (by kernel_rfl) (by kernel_rfl) (by kernel_rfl) (fun _ _ _ h => h) rfl (hHeld) ?_; simp only [List.setIfInBounds_toArray, List.set_cons_zero, List.set_cons_succ])
        (refine take_skip (i := 8) rfl rfl (by kernel_rfl) (by kernel_rfl) (by kernel_rfl) (fun _ _ _ h => h) rfl (hHeld) ?_; simp only [List.setIfInBounds_toArray, List.set_cons_zero, List.set_cons_succ])
        (refine take_skip (i := 9) rfl rfl (by kernel_rfl) (by kernel_rfl) (by kernel_rfl) (fun _ _ _ h => h) rfl (hHeld) ?_; simp only [List.setIfInBounds_toArray, List.set_cons_zero, List.set_cons_succ])
        (refine take_skip (i := 10) rfl rfl (by kernel_rfl) (by kernel_rfl) (by kernel_rfl) (fun _ _ _ h => h) rfl (hHeld) ?_; simp only [List.setIfInBounds_toArray, List.set_cons_zero, List.set_cons_succ])
        (refine take_skip (i := 11) rfl rfl (by kernel_rfl) (by kernel_rfl) (by kernel_rfl) (fun _ _ _ h => h) rfl (hHeld) ?_; simp only [List.setIfInBounds_toArray, List.set_cons_zero, List.set_cons_succ])
        (refine take_skip (i := 12) rfl rfl (by kernel_rfl) (by kernel_rfl) (by kernel_rfl) (fun _ _ _ h => h) rfl (hHeld) ?_; simp only [List.setIfInBounds_toArray, List.set_cons_zero, List.set_cons_succ])
        (refine take_skip (i := 13) rfl rfl (by kernel_rfl) (by kernel_rfl) (by kernel_rfl) (fun _ _ _ h => h) rfl (hHeld) ?_; simp only [List.setIfInBounds_toArray, List.set_cons_zero, List.set_cons_succ])
        (refine take_skip (i := 14) rfl rfl (by kernel_rfl) (by kernel_rfl) (by kernel_rfl) (fun _ _ _ h => h) rfl (hHeld) ?_; simp only [List.setIfInBounds_toArray, List.set_cons_zero, List.set_cons_succ])
        (refine take_skip (i := 15) rfl rfl (by kernel_rfl) (by kernel_rfl) (by kernel_rfl) (fun _ _ _ h => h) rfl (hHeld) ?_; simp only [List.setIfInBounds_toArray, List.set_cons_zero, List.set_cons_succ])
        (refine take_skip (i := 16) rfl rfl (by kernel_rfl) (by kernel_rfl) (by kernel_rfl) (fun _ _ _ h => h) rfl (hHeld) ?_; simp only [List.setIfInBounds_toArray, List.set_cons_zero, List.set_cons_succ])
        (refine take_skip (i := 17) rfl rfl (by kernel_rfl) (by kernel_rfl) (by kernel_rfl) (fun _ _ _ h => h) rfl (hHeld) ?_; simp only [List.setIfInBounds_toArray, List.set_cons_zero, List.set_cons_succ])
        (refine take_skip (i := 18) rfl rfl (by kernel_rfl) (by kernel_rfl) (by kernel_rfl) (fun _ _ _ h => h) rfl (hHeld) ?_; simp only [List.setIfInBounds_toArray, List.set_cons_zero, List.set_cons_succ])
        (refine take_skip (i := 19) rfl rfl (by kernel_rfl) (by kernel_rfl) (by kernel_rfl) (fun _ _ _ h => h) rfl (hHeld) ?_; simp only [List.setIfInBounds_toArray, List.set_cons_zero, List.set_cons_succ])
        (refine take_skip (i := 20) rfl rfl (by kernel_rfl) (by kernel_rfl) (by kernel_rfl) (fun _ _ _ h => h) rfl (hHeld) ?_; simp only [List.setIfInBounds_toArray, List.set_cons_zero, List.set_cons_succ])
        (refine take_skip (i := 21) rfl rfl (by kernel_rfl) (by kernel_rfl) (by kernel_rfl) (fun _ _ _ h => h) rfl (hHeld) ?_; simp only [List.setIfInBounds_toArray, List.set_cons_zero, List.set_cons_succ])
        (refine take_val (i := 22) (v := .bool false) rfl rfl (by kernel_rfl) (by kernel_rfl) (by kernel_rfl) (fun _ _ _ h => h) rfl (by intro wq hq; (try go_split_ands); go_simp; try with_reducible rfl) (hHeld) ?_; simp only [List.setIfInBounds_toArray, List.set_cons_zero, List.set_cons_succ])
        (refine take_val (i := 23) (v := .bool false) rfl rfl (by kernel_rfl) (by kernel_rfl) (by kernel_rfl) (fun _ _ _ h => h) rfl (by intro wq hq; (try go_split_ands); go_simp; try with_reducible rfl) (hHeld) ?_; simp only [List.setIfInBounds_toArray, List.set_cons_zero, List.set_cons_succ])
        by_cases hz : 0 ≤ z
        · obtain ⟨hx0, hx4⟩ := hB hz
          have hx2 : ¬ x < 0 := by omega
          have hx5 : ¬ z < x := by omega
          (refine take_val (i := 24) (v := .slice (some ⟨g3, 0, none⟩) 32 c6) rfl rfl (by kernel_rfl) (by kernel_rfl) (by kernel_rfl) (fun _ _ _ h => h) rfl (by intro wq hq; (try go_split_ands); go_simp; try with_reducible rfl) (hHeld) ?_; simp only [List.setIfInBounds_toArray, List.set_cons_zero, List.set_cons_succ])
          (refine take_val (i := 25) (v := .int .i64 j) rfl rfl (by kernel_rfl) (by kernel_rfl) (by kernel_rfl) (fun _ _ _ h => h) rfl (by intro wq hq; (try go_split_ands); go_simp; try with_reducible rfl) (hHeld) ?_; simp only [List.setIfInBounds_toArray, List.set_cons_zero, List.set_cons_succ])
          (refine take_val (i := 26) (v := .pointer (some ⟨g3, j, none⟩)) rfl rfl (by kernel_rfl) (by kernel_rfl) (by kernel_rfl) (fun _ _ _ h => h) rfl (by intro wq hq; (try go_split_ands); go_simp; try with_reducible rfl) (hHeld) ?_; simp only [List.setIfInBounds_toArray, List.set_cons_zero, List.set_cons_succ])
          (refine take_val (i := 27) (v := .int .i64 z) rfl rfl (by kernel_rfl) (by kernel_rfl) (by kernel_rfl) (fun _ _ _ h => h) rfl (by intro wq hq; (try go_split_ands); go_simp; try with_reducible rfl) (hHeld) ?_; simp only [List.setIfInBounds_toArray, List.set_cons_zero, List.set_cons_succ])
          (refine take_val (i := 28) (v := .bool true) rfl rfl (by kernel_rfl) (by kernel_rfl) (by kernel_rfl) (fun _ _ _ h => h) rfl (by intro wq hq; (try go_split_ands); go_simp; try with_reducible rfl) (hHeld) ?_; simp only [List.setIfInBounds_toArray, List.set_cons_zero, List.set_cons_succ])
          (refine take_val (i := 29) (v := .bool true) rfl rfl (by kernel_rfl) (by kernel_rfl) (by kernel_rfl) (fun _ _ _ h => h) rfl (by intro wq hq; (try go_split_ands); go_simp; try with_reducible rfl) (hHeld) ?_; simp only [List.setIfInBounds_toArray, List.set_cons_zero, List.set_cons_succ])
          (refine take_val (i := 30) (v := .slice (some ⟨g, 0, none⟩) 32 c3) rfl rfl (by kernel_rfl) (by kernel_rfl) (by kernel_rfl) (fun _ _ _ h => h) rfl (by intro wq hq; (try go_split_ands); go_simp; try with_reducible rfl) (hHeld) ?_; simp only [List.setIfInBounds_toArray, List.set_cons_zero, List.set_cons_succ])
          (refine take_val (i := 31) (v := .int .i64 j) rfl rfl (by kernel_rfl) (by kernel_rfl) (by kernel_rfl) (fun _ _ _ h => h) rfl (by intro wq hq; (try go_split_ands); go_simp; try with_reducible rfl) (hHeld) ?_; simp only [List.setIfInBounds_toArray, List.set_cons_zero, List.set_cons_succ])
          (refine take_val (i := 32) (v := .pointer (some ⟨g, j, none⟩)) rfl rfl (by kernel_rfl) (by kernel_rfl) (by kernel_rfl) (fun _ _ _ h => h) rfl (by intro wq hq; (try go_split_ands); go_simp; try with_reducible rfl) (hHeld) ?_; simp only [List.setIfInBounds_toArray, List.set_cons_zero, List.set_cons_succ])
          (refine take_val (i := 33) (v := .int .i64 x) rfl rfl (by kernel_rfl) (by kernel_rfl) (by kernel_rfl) (fun _ _ _ h => h) rfl (by intro wq hq; (try go_split_ands); go_simp; try with_reducible rfl) (hHeld) ?_; simp only [List.setIfInBounds_toArray, List.set_cons_zero, List.set_cons_succ])
          (refine take_val (i := 34) (v := .bool false) rfl rfl (by kernel_rfl) (by kernel_rfl) (by kernel_rfl) (fun _ _ _ h => h) rfl (by intro wq hq; (try go_split_ands); go_simp; try with_reducible rfl) (hHeld) ?_; simp only [List.setIfInBounds_toArray, List.set_cons_zero, List.set_cons_succ])
          (refine take_val (i := 35) (v := .bool false) rfl rfl (by kernel_rfl) (by kernel_rfl) (by kernel_rfl) (fun _ _ _ h => h) rfl (by intro wq hq; (try go_split_ands); go_simp; try with_reducible rfl) (hHeld) ?_; simp only [List.setIfInBounds_toArray, List.set_cons_zero, List.set_cons_succ])
          (refine take_val (i := 36) (v := .slice (some ⟨g, 0, none⟩) 32 c3) rfl rfl (by kernel_rfl) (by kernel_rfl) (by kernel_rfl) (fun _ _ _ h => h) rfl (by intro wq hq; (try go_split_ands); go_simp; try with_reducible rfl) (hHeld) ?_; simp only [List.setIfInBounds_toArray, List.set_cons_zero, List.set_cons_succ])
          (refine take_val (i := 37) (v := .int .i64 j) rfl rfl (by kernel_rfl) (by kernel_rfl) (by kernel_rfl) (fun _ _ _ h => h) rfl (by intro wq hq; (try go_split_ands); go_simp; try with_reducible rfl) (hHeld) ?_; simp only [List.setIfInBounds_toArray, List.set_cons_zero, List.set_cons_succ])
          (refine take_val (i := 38) (v := .pointer (some ⟨g, j, none⟩)) rfl rfl (by kernel_rfl) (by kernel_rfl) (by kernel_rfl) (fun _ _ _ h => h) rfl (by intro wq hq; (try go_split_ands); go_simp; try with_reducible rfl) (hHeld) ?_; simp only [List.setIfInBounds_toArray, List.set_cons_zero, List.set_cons_succ])
          (refine take_val (i := 39) (v := .int .i64 x) rfl rfl (by kernel_rfl) (by kernel_rfl) (by kernel_rfl) (fun _ _ _ h => h) rfl (by intro wq hq; (try go_split_ands); go_simp; try with_reducible rfl) (hHeld) ?_; simp only [List.setIfInBounds_toArray, List.set_cons_zero, List.set_cons_succ])
          (refine take_val (i := 40) (v := .slice (some ⟨g3, 0, none⟩) 32 c6) rfl rfl (by kernel_rfl) (by kernel_rfl) (by kernel_rfl) (fun _ _ _ h => h) rfl (by intro wq hq; (try go_split_ands); go_simp; try with_reducible rfl) (hHeld) ?_; simp only [List.setIfInBounds_toArray, List.set_cons_zero, List.set_cons_succ])
          (refine take_val (i := 41) (v := .int .i64 j) rfl rfl (by kernel_rfl) (by kernel_rfl) (by kernel_rfl) (fun _ _ _ h => h) rfl (by intro wq hq; (try go_split_ands); go_simp; try with_reducible rfl) (hHeld) ?_; simp only [List.setIfInBounds_toArray, List.set_cons_zero, List.set_cons_succ])
          (refine take_val (i := 42) (v := .pointer (some ⟨g3, j, none⟩)) rfl rfl (by kernel_rfl) (by kernel_rfl) (by kernel_rfl) (fun _ _ _ h => h) rfl (by intro wq hq; (try go_split_ands); go_simp; try with_reducible rfl) (hHeld) ?_; simp only [List.setIfInBounds_toArray, List.set_cons_zero, List.set_cons_succ])
          (refine take_val (i := 43) (v := .int .i64 z) rfl rfl (by kernel_rfl) (by kernel_rfl) (by kernel_rfl) (fun _ _ _ h => h) rfl (by intro wq hq; (try go_split_ands); go_simp; try with_reducible rfl) (hHeld) ?_; simp only [List.setIfInBounds_toArray, List.set_cons_zero, List.set_cons_succ])
          (refine take_val (i := 44) (v := .bool false) rfl rfl (by kernel_rfl) (by kernel_rfl) (by kernel_rfl) (fun _ _ _ h => h) rfl (by intro wq hq; (try go_split_ands); go_simp; try with_reducible rfl) (hHeld) ?_; simp only [List.setIfInBounds_toArray, List.set_cons_zero, List.set_cons_succ])
          (refine take_val (i := 45) (v := .bool false) rfl rfl (by kernel_rfl) (by kernel_rfl) (by kernel_rfl) (fun _ _ _ h => h) rfl (by intro wq hq; (try go_split_ands); go_simp; try with_reducible rfl) (hHeld) ?_; simp only [List.setIfInBounds_toArray, List.set_cons_zero, List.set_cons_succ])
          (refine take_val (i := 46) (v := .bool false) rfl rfl (by kernel_rfl) (by kernel_rfl) (by kernel_rfl) (fun _ _ _ h => h) rfl (by intro wq hq; (try go_split_ands); go_simp; try with_reducible rfl) (hHeld) ?_; simp only [List.setIfInBounds_toArray, List.set_cons_zero, List.set_cons_succ])
          (refine take_val (i := 47) (v := .bool false) rfl rfl (by kernel_rfl) (by kernel_rfl) (by kernel_rfl) (fun _ _ _ h => h) rfl (by intro wq hq; (try go_split_ands); go_simp; try with_reducible rfl) (hHeld) ?_; simp only [List.setIfInBounds_toArray, List.set_cons_zero, List.set_cons_succ])
          refine wpAnyH_done (by kernel_rfl) ?_ _
          clear cx cy cz hHeld
          go_wp2_with fail
          exact ⟨⟨j + 1, by omega, by go_num, hkp.drew⟩, by simp [intOf]; omega⟩
        · (refine take_val (i := 24) (v := .slice (some ⟨g3, 0, none⟩) 32 c6) rfl rfl (by kernel_rfl) (by kernel_rfl) (by kernel_rfl) (fun _ _ _ h => h) rfl (by intro wq hq; (try go_split_ands); go_simp; try with_reducible rfl) (hHeld) ?_; simp only [List.setIfInBounds_toArray, List.set_cons_zero, List.set_cons_succ])
          (refine take_val (i := 25) (v := .int .i64 j) rfl rfl (by kernel_rfl) (by kernel_rfl) (by kernel_rfl) (fun _ _ _ h => h) rfl (by intro wq hq; (try go_split_ands); go_simp; try with_reducible rfl) (hHeld) ?_; simp only [List.setIfInBounds_toArray, List.set_cons_zero, List.set_cons_succ])
          (refine take_val (i := 26) (v := .pointer (some ⟨g3, j, none⟩)) rfl rfl (by kernel_rfl) (by kernel_rfl) (by kernel_rfl) (fun _ _ _ h => h) rfl (by intro wq hq; (try go_split_ands); go_simp; try with_reducible rfl) (hHeld) ?_; simp only [List.setIfInBounds_toArray, List.set_cons_zero, List.set_cons_succ])
          (refine take_val (i := 27) (v := .int .i64 z) rfl rfl (by kernel_rfl) (by kernel_rfl) (by kernel_rfl) (fun _ _ _ h => h) rfl (by intro wq hq; (try go_split_ands); go_simp; try with_reducible rfl) (hHeld) ?_; simp only [List.setIfInBounds_toArray, List.set_cons_zero, List.set_cons_succ])
          (refine take_val (i := 28) (v := .bool false) rfl rfl (by kernel_rfl) (by kernel_rfl) (by kernel_rfl) (fun _ _ _ h => h) rfl (by intro wq hq; (try go_split_ands); go_simp; try with_reducible rfl) (hHeld) ?_; simp only [List.setIfInBounds_toArray, List.set_cons_zero, List.set_cons_succ])
          (refine take_val (i := 29) (v := .bool false) rfl rfl (by kernel_rfl) (by kernel_rfl) (by kernel_rfl) (fun _ _ _ h => h) rfl (by intro wq hq; (try go_split_ands); go_simp; try with_reducible rfl) (hHeld) ?_; simp only [List.setIfInBounds_toArray, List.set_cons_zero, List.set_cons_succ])
          (refine take_skip (i := 30) rfl rfl (by kernel_rfl) (by kernel_rfl) (by kernel_rfl) (fun _ _ _ h => h) rfl (hHeld) ?_; simp only [List.setIfInBounds_toArray, List.set_cons_zero, List.set_cons_succ])
          (refine take_skip (i := 31) rfl rfl (by kernel_rfl) (by kernel_rfl) (by kernel_rfl) (fun _ _ _ h => h) rfl (hHeld) ?_; simp only [List.setIfInBounds_toArray, List.set_cons_zero, List.set_cons_succ])
          (refine take_skip (i := 32) rfl rfl (by kernel_rfl) (by kernel_rfl) (by kernel_rfl) (fun _ _ _ h => h) rfl (hHeld) ?_; simp only [List.setIfInBounds_toArray, List.set_cons_zero, List.set_cons_succ])
          (refine take_skip (i := 33) rfl rfl (by kernel_rfl) (by kernel_rfl) (by kernel_rfl) (fun _ _ _ h => h) rfl (hHeld) ?_; simp only [List.setIfInBounds_toArray, List.set_cons_zero, List.set_cons_succ])
          (refine take_skip (i := 34) rfl rfl (by kernel_rfl) (by kernel_rfl) (by kernel_rfl) (fun _ _ _ h => h) rfl (hHeld) ?_; simp only [List.setIfInBounds_toArray, List.set_cons_zero, List.set_cons_succ])
          (refine take_skip (i := 35) rfl rfl (by kernel_rfl) (by kernel_rfl) (by kernel_rfl) (fun _ _ _ h => h) rfl (hHeld) ?_; simp only [List.setIfInBounds_toArray, List.set_cons_zero, List.set_cons_succ])
          (refine take_skip (i := 36) rfl rfl (by kernel_rfl) (by kernel_rfl) (by kernel_rfl) (fun _ _ _ h => h) rfl (hHeld) ?_; simp only [List.setIfInBounds_toArray, List.set_cons_zero, List.set_cons_succ])
          (refine take_skip (i := 37) rfl rfl (by kernel_rfl) (by kernel_rfl) (by kernel_rfl) (fun _ _ _ h => h) rfl (hHeld) ?_; simp only [List.setIfInBounds_toArray, List.set_cons_zero, List.set_cons_succ])
          (refine take_skip (i := 38) rfl rfl (by kernel_rfl) (by kernel_rfl) (by kernel_rfl) (fun _ _ _ h => h) rfl (hHeld) ?_; simp only [List.setIfInBounds_toArray, List.set_cons_zero, List.set_cons_succ])
          (refine take_skip (i := 39) rfl rfl (by kernel_rfl) (by kernel_rfl) (by kernel_rfl) (fun _ _ _ h => h) rfl (hHeld) ?_; simp only [List.setIfInBounds_toArray, List.set_cons_zero, List.set_cons_succ])
          (refine take_skip (i := 40) rfl rfl (by kernel_rfl) (by kernel_rfl) (by kernel_rfl) (fun _ _ _ h => h) rfl (hHeld) ?_; simp only [List.setIfInBounds_toArray, List.set_cons_zero, List.set_cons_succ])
          (refine take_skip (i := 41) rfl rfl (by kernel_rfl) (by kernel_rfl) (by kernel_rfl) (fun _ _ _ h => h) rfl (hHeld) ?_; simp only [List.setIfInBounds_toArray, List.set_cons_zero, List.set_cons_succ])
          (refine take_skip (i := 42) rfl rfl (by kernel_rfl) (by kernel_rfl) (by kernel_rfl) (fun _ _ _ h => h) rfl (hHeld) ?_; simp only [List.setIfInBounds_toArray, List.set_cons_zero, List.set_cons_succ])
          (refine take_skip (i := 43) rfl rfl (by kernel_rfl) (by kernel_rfl) (by kernel_rfl) (fun _ _ _ h => h) rfl (hHeld) ?_; simp only [List.setIfInBounds_toArray, List.set_cons_zero, List.set_cons_succ])
          (refine take_skip (i := 44) rfl rfl (by kernel_rfl) (by kernel_rfl) (by kernel_rfl) (fun _ _ _ h => h) rfl (hHeld) ?_; simp only [List.setIfInBounds_toArray, List.set_cons_zero, List.set_cons_succ])
          (refine take_skip (i := 45) rfl rfl (by kernel_rfl) (by kernel_rfl) (by kernel_rfl) (fun _ _ _ h => h) rfl (hHeld) ?_; simp only [List.setIfInBounds_toArray, List.set_cons_zero, List.set_cons_succ])
          (refine take_val (i := 46) (v := .bool false) rfl rfl (by kernel_rfl) (by kernel_rfl) (by kernel_rfl) (fun _ _ _ h => h) rfl (by intro wq hq; (try go_split_ands); go_simp; try with_reducible rfl) (hHeld) ?_; simp only [List.setIfInBounds_toArray, List.set_cons_zero, List.set_cons_succ])
          (refine take_val (i := 47) (v := .bool false) rfl rfl (by kernel_rfl) (by kernel_rfl) (by kernel_rfl) (fun _ _ _ h => h) rfl (by intro wq hq; (try go_split_ands); go_simp; try with_reducible rfl) (hHeld) ?_; simp only [List.setIfInBounds_toArray, List.set_cons_zero, List.set_cons_succ])
          refine wpAnyH_done (by kernel_rfl) ?_ _
          clear cx cy cz hHeld
          go_wp2_with fail
          exact ⟨⟨j + 1, by omega, by go_num, hkp.drew⟩, by simp [intOf]; omega⟩
    · obtain rfl : j = 32 := by omega
      have c0 := (B0.kept hkp).cell
      have HEq := Lib.hid (shadowSteps_all HK.out)
      replace hO2 := hO2.keep hkp
      go_wp2_with fail
      refine (c_iShadowSteps _ t 31 _ (hT.keep hkp)).mono ?_; rintro e w9 ⟨v, rfl, hS, hk9⟩
      rw [HEq.out] at hS
      replace hO2 := hO2.keep hk9
      obtain ⟨g4, c7, rfl, hg4, hO4⟩ := outInts_row hS HL2.out
      clear c0
      go_wp2_with fail
      refine (c_lsameInts _ _ _ _ _ _ _ _ _ hO4.ints hO2.ints rfl).mono ?_; rintro e w10 ⟨rfl, hk10⟩
      go_wp2_with fail
      go_ret
      exact ⟨rfl, hk0.trans ((hkp.trans hk9).trans hk10)⟩

end Go.Proofs.Ytjmpfemlihjibaa
