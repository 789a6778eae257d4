/- The law FnPlanRun, walked. No condition. -/
import Derived.Test.YtjmpfemlihjibaaD17
import Derived.Test.YtjmpfemlihjibaaG25
import Derived.Test.YtjmpfemlihjibaaA1
import Derived.Test.YtjmpfemlihjibaaRowB
namespace Go.Proofs.Ytjmpfemlihjibaa
open Go.RowKit

theorem Ints.take {w : World} {b off n : Nat} {l : List Int} (h : Ints w (some ⟨b, off, none⟩) n l) {k : Nat} (hk : k ≤ n) : Ints w (some ⟨b, off, none⟩) k (l.take k) := by
  obtain ⟨h1, h2, h3, h4⟩ := h
  refine ⟨by rw [List.length_take]; omega, by omega, fun x hx => h3 x (List.mem_of_mem_take hx), fun h0 => ?_⟩
  obtain ⟨b2, o2, e, h5, h6⟩ := h4 (by omega)
  refine ⟨b2, o2, e, h5, fun j hj => ?_⟩
  rw [h6 j (by omega)]
  simp [List.getD, List.getElem?_take, hj]
theorem Ints.drop {w : World} {b off n : Nat} {l : List Int} (h : Ints w (some ⟨b, off, none⟩) n l) {k : Nat} (hk : k ≤ n) : Ints w (some ⟨b, off + k, none⟩) (n - k) (l.drop k) := by
  obtain ⟨h1, h2, h3, h4⟩ := h
  refine ⟨by rw [List.length_drop]; omega, by omega, fun x hx => h3 x (List.mem_of_mem_drop hx), fun h0 => ?_⟩
  obtain ⟨b2, o2, e, h5, h6⟩ := h4 (by omega)
  simp only [Option.some.injEq, Addr.mk.injEq, and_true] at e
  obtain ⟨rfl, rfl⟩ := e
  refine ⟨b, off + k, rfl, h5, fun j hj => ?_⟩
  have := h6 (k + j) (by omega)
  rw [Nat.add_assoc, this]
  simp [List.getD, List.getElem?_drop]
/-- in two parts a plan leads to the same state -/
theorem plan_half {t : Sp.Task} {s : Int} {l : List Int} (h0 : 0 ≤ Sp.planRun t s l) (k : Nat) : Sp.planRun t (Sp.planRun t s (l.take k)) (l.drop k) = Sp.planRun t s l := by
  unfold Sp.planRun at h0
  split at h0
  · rename_i hc
    have hc2 := hc.2.1
    unfold Sp.stOk at hc2
    simp only [decide_eq_true_eq] at hc2
    have e := goOn_append t (l.drop k) (l.take k) s.toNat
    rw [List.take_append_drop] at e
    have hp : 0 ≤ Sp.goOn t s.toNat (l.take k) := by
      by_cases h : 0 ≤ Sp.goOn t s.toNat (l.take k)
      · exact h
      · rw [if_neg h] at e; omega
    rw [if_pos hp] at e
    have hb := goOn_bd hc.1 (l.take k) s.toNat (by omega)
    have e1 : Sp.planRun t s (l.take k) = Sp.goOn t s.toNat (l.take k) := by
      unfold Sp.planRun
      rw [if_pos ⟨hc.1, hc.2.1, by rw [List.length_take]; omega⟩]
    have e2 : Sp.planRun t s l = Sp.goOn t s.toNat l := by
      unfold Sp.planRun
      rw [if_pos hc]
    rw [e1, e2, e]
    unfold Sp.planRun
    rw [if_pos ⟨hc.1, by unfold Sp.stOk; simp; omega, by rw [List.length_drop]; omega⟩]
  · omega
theorem plan_reached {t : Sp.Task} {l : List Int} (h0 : 0 ≤ Sp.planRun t t.start l) : Sp.taskOk t = true ∧ (Sp.reachedN t).testBit (Sp.planRun t t.start l).toNat = true := by
  unfold Sp.planRun at *
  split at h0
  · rename_i hc
    rw [if_pos hc]
    exact ⟨hc.1, goOn_reached hc.1 l _ (start_lt hc.1) start_in h0⟩
  · omega
theorem plan_ok {t : Sp.Task} {s : Int} {l : List Int} (h0 : 0 ≤ Sp.planRun t s l) : Sp.taskOk t = true := by
  unfold Sp.planRun at h0
  split at h0
  · rename_i hc; exact hc.1
  · omega

set_option maxHeartbeats 1000000 in
set_option maxRecDepth 100000 in
theorem l_PlanRunFn (A : Option Addr) (n c : Nat) (w : World) (h : BytesV w A n ∧ n ≤ c ∧ c ≤ maxLen) : Calls Try.prog 6 #[.slice A n c] w (RetK (.bool true) w) := by
  by_cases hn : 1048576 < n
  · have hn1 : (1048576 : Int) < (n : Int) := by omega
    go_enter Try.func6, Try.ntmps6
    go_wp2_with fail
    go_ret
    exact ⟨rfl, Kept.refl _⟩
  have hn1 : ¬ (1048576 : Int) < (n : Int) := by omega
  go_enter Try.func6, Try.ntmps6
  go_wp2_with fail
  refine (c_drawPlanRun A n c w h).mono ?_; rintro e w2 ⟨v, rfl, ⟨tv, t, s, A3, n3, c3, l, rfl, hTV, hL, hn41, hlies⟩, hk2⟩
  obtain ⟨A1, m1, c1, A2, m2, c2, rfl⟩ := hTV.form
  have hk0 := hk2.alloc (.cells #[.int .i64 t.start, .slice A1 m1 c1, .slice A2 m2 c2] 26)
  have hT := hTV.keep ((Kept.refl w2).alloc (.cells #[.int .i64 t.start, .slice A1 m1 c1, .slice A2 m2 c2] 26))
  replace hL := hL.keep ((Kept.refl w2).alloc (.cells #[.int .i64 t.start, .slice A1 m1 c1, .slice A2 m2 c2] 26))
  have B0 := Blk.new w2 26 #[.int .i64 t.start, .slice A1 m1 c1, .slice A2 m2 c2]
  clear hk2 hTV
  go_wp2_with fail
  refine (c_iPlanRun _ t s _ _ _ l _ hT hL).mono ?_; rintro e w3 ⟨rfl, hk3⟩
  replace hk0 := hk0.trans hk3
  replace B0 := B0.kept hk3
  replace hT := hT.keep hk3
  replace hL := hL.keep hk3
  clear hk3
  have c0 := B0.cell
  go_wp2_with fail
  refine (c_sPlanRun _ t s _ _ _ l _ hT hL).mono ?_; rintro e w4 ⟨rfl, hk4⟩
  replace hk0 := hk0.trans hk4
  replace B0 := B0.kept hk4
  replace hT := hT.keep hk4
  replace hL := hL.keep hk4
  clear hk4 c0
  have hxb := planRun_bd t s l
  have HHalf := Lib.hid (fun (h0 : 0 ≤ Sp.planRun t s l) => plan_half h0 (n3 / 2))
  have HOk := Lib.hid (fun (h0 : 0 ≤ Sp.planRun t s l) => plan_ok h0)
  have HRe : Hid (s = t.start → 0 ≤ Sp.planRun t s l → (Sp.reachedN t).testBit (Sp.planRun t s l).toNat = true) := fun e h0 => by subst e; exact (plan_reached h0).2
  obtain ⟨x, HX⟩ : ∃ x, Hid (Sp.planRun t s l = x) := ⟨_, rfl⟩
  rw [HX.out] at hxb HHalf HOk HRe ⊢
  by_cases hx : x < 0
  · obtain rfl : x = -1 := by omega
    clear hL
    go_wp2_with fail
    refine (c_alive _).mono ?_; rintro e w6 ⟨rfl, hk6⟩
    go_wp2_with fail
    go_ret
    exact ⟨rfl, hk0.trans hk6⟩
  obtain ⟨x, rfl⟩ := Int.eq_ofNat_of_zero_le (show 0 ≤ x by omega)
  have HOk2 := Lib.hid (HOk.out (by omega))
  have HHalf2 := Lib.hid (HHalf.out (by omega))
  have hx32 : (x : Int) < 32 := by omega
  obtain ⟨k, Hk⟩ : ∃ k, Hid (n3 / 2 = k) := ⟨_, rfl⟩
  have hk3 : k ≤ n3 := by rw [← Hk.out]; omega
  have hq : Int.tdiv (n3 : Int) 2 = (k : Int) := by rw [← Hk.out, Int.tdiv_eq_ediv_of_nonneg (by omega)]; rfl
  have hwk : IntKind.i64.wrap (k : Int) = (k : Int) := by rw [IntKind.wrap_i64]; omega
  rw [Hk.out] at HHalf2
  clear HHalf HOk
  go_wp2_with fail
  have hdz := (Kept.refl w4).drew
  replace B0 := B0.kept hdz
  replace hk0 := hk0.trans hdz
  replace hT := hT.keep hdz
  replace hL := hL.keep hdz
  clear hdz
  have hfin : ∀ (AT AD : Option Addr) (cT cD : Nat), Ints w4.drew AT k (l.take k) → Ints w4.drew AD (n3 - k) (l.drop k) → True := fun _ _ _ _ _ _ => trivial
  clear hfin
  rcases hlies with ⟨rfl, rfl, rfl⟩ | ⟨g, rfl, hnc⟩
  · obtain rfl : k = 0 := by omega
    have hTk : Ints w4.drew none 0 [] := ⟨rfl, Nat.zero_le _, fun y hy => (by cases hy), fun h => (by omega)⟩
    have hDk : Ints w4.drew none 0 l := hL
    rw [List.take_zero, List.drop_zero] at HHalf2
    refine wp_region_held_drew (S := fun w' => w'.cell? ⟨w2.heap.size, 0, none⟩ = some (.int .i64 t.start) ∧ w'.cell? ⟨w2.heap.size, 1, none⟩ = some (.slice A1 m1 c1) ∧ w'.cell? ⟨w2.heap.size, 2, none⟩ = some (.slice A2 m2 c2)) (by kernel_rfl) ⟨B0.cell 0, B0.cell 1, B0.cell 2⟩ (fun hHeld => ?_)
    (refine take_val (i := 0) (v := .agg #[.int .i64 t.start, .slice A1 m1 c1, .slice A2 m2 c2]) rfl rfl (by kernel_rfl) (by kernel_rfl) (by kernel_rfl) (fun _ _ _ h => h) rfl (by intro wq hq; (try go_split_ands); go_simp; try with_reducible rfl) (hHeld) ?_; simp only [List.setIfInBounds_toArray, List.set_cons_zero, List.set_cons_succ])
    (refine take_val (i := 1) (v := .agg #[.int .i64 t.start, .slice A1 m1 c1, .slice A2 m2 c2]) rfl rfl (by kernel_rfl) (by kernel_rfl) (by kernel_rfl) (fun _ _ _ h => h) rfl (by intro wq hq; (try go_split_ands); go_simp; try with_reducible rfl) (hHeld) ?_; simp only [List.setIfInBounds_toArray, List.set_cons_zero, List.set_cons_succ])
    (refine take_val (i := 2) (v := .int .i64 s) rfl rfl (by kernel_rfl) (by kernel_rfl) (by kernel_rfl) (fun _ _ _ h => h) rfl (by intro wq hq; (try go_split_ands); go_simp; try with_reducible rfl) (hHeld) ?_; simp only [List.setIfInBounds_toArray, List.set_cons_zero, List.set_cons_succ])
    (refine take_val (i := 3) (v := .slice none 0 0) rfl rfl (by kernel_rfl) (by kernel_rfl) (by kernel_rfl) (fun _ _ _ h => h) rfl (by intro wq hq; (try go_split_ands); go_simp; try with_reducible rfl) (hHeld) ?_; simp only [List.setIfInBounds_toArray, List.set_cons_zero, List.set_cons_succ])
    (refine take_val (i := 4) (v := .int .i64 0) rfl rfl (by kernel_rfl) (by kernel_rfl) (by kernel_rfl) (fun _ _ _ h => h) rfl (by intro wq hq; (try go_split_ands); go_simp; try with_reducible rfl) (hHeld) ?_; simp only [List.setIfInBounds_toArray, List.set_cons_zero, List.set_cons_succ])
    (refine take_val (i := 5) (v := .slice none 0 0) rfl rfl (by kernel_rfl) (by kernel_rfl) (by kernel_rfl) (fun _ _ _ h => h) rfl (by intro wq hq; (try go_split_ands); go_simp; try with_reducible rfl) (hHeld) ?_; simp only [List.setIfInBounds_toArray, List.set_cons_zero, List.set_cons_succ])
    (refine take_val (i := 7) (v := .slice none 0 0) rfl rfl (by kernel_rfl) (by kernel_rfl) (by kernel_rfl) (fun _ _ _ h => h) rfl (by intro wq hq; (try go_split_ands); go_simp; try with_reducible rfl) (hHeld) ?_; simp only [List.setIfInBounds_toArray, List.set_cons_zero, List.set_cons_succ])
    (refine take_val (i := 8) (v := .int .i64 0) rfl rfl (by kernel_rfl) (by kernel_rfl) (by kernel_rfl) (fun _ _ _ h => h) rfl (by intro wq hq; (try go_split_ands); go_simp; try with_reducible rfl) (hHeld) ?_; simp only [List.setIfInBounds_toArray, List.set_cons_zero, List.set_cons_succ])
    (refine take_val (i := 9) (v := .slice none 0 0) rfl rfl (by kernel_rfl) (by kernel_rfl) (by kernel_rfl) (fun _ _ _ h => h) rfl (by intro wq hq; (try go_split_ands); go_simp; try with_reducible rfl) (hHeld) ?_; simp only [List.setIfInBounds_toArray, List.set_cons_zero, List.set_cons_succ])
    (refine wpAnyH_ready (rs := [6]) (by kernel_rfl) (by simp) ?_; refine AllReadyH.cons rfl (fun K hK => ?_) AllReadyH.nil; go_simp)
    refine (c_iPlanRun _ t s _ _ _ [] _ hT hTk).mono ?_; rintro e w7 ⟨rfl, hk7⟩
    replace hk0 := hk0.trans hk7
    replace B0 := B0.kept hk7
    replace hT := hT.keep hk7
    replace hDk := hDk.keep hk7
    clear hk7 hHeld hTk hL
    have hHeld : w7.cell? ⟨w2.heap.size, 0, none⟩ = some (.int .i64 t.start) ∧ w7.cell? ⟨w2.heap.size, 1, none⟩ = some (.slice A1 m1 c1) ∧ w7.cell? ⟨w2.heap.size, 2, none⟩ = some (.slice A2 m2 c2) := ⟨B0.cell 0, B0.cell 1, B0.cell 2⟩
    (refine hK.out _ _ (hHeld) (fun _ => ?_); clear hK K; try simp only [Act.put, List.setIfInBounds_toArray, List.set_cons_zero, List.set_cons_succ])
    (refine wpAnyH_ready (rs := [10]) (by kernel_rfl) (by simp) ?_; refine AllReadyH.cons rfl (fun K hK => ?_) AllReadyH.nil; go_simp)
    refine (c_iPlanRun _ t _ _ _ _ l _ hT hDk).mono ?_; rintro e w8 ⟨rfl, hk8⟩
    rw [HHalf2.out]
    replace hk0 := hk0.trans hk8
    replace B0 := B0.kept hk8
    replace hT := hT.keep hk8
    clear hk8 hHeld hDk
    have hHeld : w8.cell? ⟨w2.heap.size, 0, none⟩ = some (.int .i64 t.start) ∧ w8.cell? ⟨w2.heap.size, 1, none⟩ = some (.slice A1 m1 c1) ∧ w8.cell? ⟨w2.heap.size, 2, none⟩ = some (.slice A2 m2 c2) := ⟨B0.cell 0, B0.cell 1, B0.cell 2⟩
    (refine hK.out _ _ (hHeld) (fun _ => ?_); clear hK K; try simp only [Act.put, List.setIfInBounds_toArray, List.set_cons_zero, List.set_cons_succ])
    (refine take_val (i := 11) (v := .int .i64 x) rfl rfl (by kernel_rfl) (by kernel_rfl) (by kernel_rfl) (fun _ _ _ h => h) rfl (by intro wq hq; (try go_split_ands); go_simp; try with_reducible rfl) (hHeld) ?_; simp only [List.setIfInBounds_toArray, List.set_cons_zero, List.set_cons_succ])
    refine wpAnyH_done (by kernel_rfl) ?_ _
    clear hHeld
    have c0 := B0.cell
    by_cases hs : s = t.start
    · have hbit := HRe.out hs (by omega)
      rw [Int.toNat_natCast] at hbit
      have HRd : Hid (Sp.reached t = (Sp.reachedN t : Nat)) := by show _ = _; unfold Sp.reached; rw [if_pos HOk2.out]
      have hbD : (((Sp.reachedN t : Nat) : Int) / 2 ^ x).tmod 2 = 1 := by rw [tmod_bit, hbit]; rfl
      generalize Sp.reachedN t = D at *
      subst hs
      clear hbit
      go_wp2_with fail
      refine (c_iReached _ t _ hT).mono ?_; rintro e w9 ⟨rfl, hk9⟩
      rw [HRd.out]
      go_wp2_with fail
      go_ret
      exact ⟨rfl, hk0.trans hk9⟩
    · have hs2 : (s == t.start) = false := beq_eq_false_iff_ne.2 hs
      go_wp2_with fail
      go_ret
      exact ⟨rfl, hk0⟩
  · have hTk := hL.take hk3
    have hDk := hL.drop hk3
    rw [Nat.zero_add] at hDk
    have hck : c3 = k → 0 = k := fun e => by have := Hk.out; omega
    have hkc : ¬ (c3 : Int) < (k : Int) := by omega
    have hkn : ¬ (n3 : Int) < (k : Int) := by omega
    have hnc2 : ¬ (c3 : Int) < (n3 : Int) := by omega
    have hkc3 : (k : Int) ≤ (c3 : Int) := by omega
    have hkn3 : (k : Int) ≤ (n3 : Int) := by omega
    have hnc3 : (n3 : Int) ≤ (c3 : Int) := by omega
    refine wp_region_held_drew (S := fun w' => w'.cell? ⟨w2.heap.size, 0, none⟩ = some (.int .i64 t.start) ∧ w'.cell? ⟨w2.heap.size, 1, none⟩ = some (.slice A1 m1 c1) ∧ w'.cell? ⟨w2.heap.size, 2, none⟩ = some (.slice A2 m2 c2)) (by kernel_rfl) ⟨B0.cell 0, B0.cell 1, B0.cell 2⟩ (fun hHeld => ?_)
    (refine take_val (i := 0) (v := .agg #[.int .i64 t.start, .slice A1 m1 c1, .slice A2 m2 c2]) rfl rfl (by kernel_rfl) (by kernel_rfl) (by kernel_rfl) (fun _ _ _ h => h) rfl (by intro wq hq; (try go_split_ands); go_simp; try with_reducible rfl) (hHeld) ?_; simp only [List.setIfInBounds_toArray, List.set_cons_zero, List.set_cons_succ])
    (refine take_val (i := 1) (v := .agg #[.int .i64 t.start, .slice A1 m1 c1, .slice A2 m2 c2]) rfl rfl (by kernel_rfl) (by kernel_rfl) (by kernel_rfl) (fun _ _ _ h => h) rfl (by intro wq hq; (try go_split_ands); go_simp; try with_reducible rfl) (hHeld) ?_; simp only [List.setIfInBounds_toArray, List.set_cons_zero, List.set_cons_succ])
    (refine take_val (i := 2) (v := .int .i64 s) rfl rfl (by kernel_rfl) (by kernel_rfl) (by kernel_rfl) (fun _ _ _ h => h) rfl (by intro wq hq; (try go_split_ands); go_simp; try with_reducible rfl) (hHeld) ?_; simp only [List.setIfInBounds_toArray, List.set_cons_zero, List.set_cons_succ])
    (refine take_val (i := 3) (v := .slice (some ⟨g, 0, none⟩) n3 c3) rfl rfl (by kernel_rfl) (by kernel_rfl) (by kernel_rfl) (fun _ _ _ h => h) rfl (by intro wq hq; (try go_split_ands); go_simp; try with_reducible rfl) (hHeld) ?_; simp only [List.setIfInBounds_toArray, List.set_cons_zero, List.set_cons_succ])
    (refine take_val (i := 4) (v := .int .i64 k) rfl rfl (by kernel_rfl) (by kernel_rfl) (by kernel_rfl) (fun _ _ _ h => h) rfl (by intro wq hq; (try go_split_ands); go_simp; try with_reducible rfl) (hHeld) ?_; simp only [List.setIfInBounds_toArray, List.set_cons_zero, List.set_cons_succ])
    (refine take_val (i := 5) (v := .slice (some ⟨g, 0, none⟩) k c3) rfl rfl (by kernel_rfl) (by kernel_rfl) (by kernel_rfl) (fun _ _ _ h => h) rfl (by intro wq hq; (try go_split_ands); go_simp; try with_reducible rfl) (hHeld) ?_; simp only [List.setIfInBounds_toArray, List.set_cons_zero, List.set_cons_succ])
    (refine take_val (i := 7) (v := .slice (some ⟨g, 0, none⟩) n3 c3) rfl rfl (by kernel_rfl) (by kernel_rfl) (by kernel_rfl) (fun _ _ _ h => h) rfl (by intro wq hq; (try go_split_ands); go_simp; try with_reducible rfl) (hHeld) ?_; simp only [List.setIfInBounds_toArray, List.set_cons_zero, List.set_cons_succ])
    (refine take_val (i := 8) (v := .int .i64 k) rfl rfl (by kernel_rfl) (by kernel_rfl) (by kernel_rfl) (fun _ _ _ h => h) rfl (by intro wq hq; (try go_split_ands); go_simp; try with_reducible rfl) (hHeld) ?_; simp only [List.setIfInBounds_toArray, List.set_cons_zero, List.set_cons_succ])
    (refine take_val (i := 9) (v := .slice (some ⟨g, k, none⟩) (n3 - k) (c3 - k)) rfl rfl (by kernel_rfl) (by kernel_rfl) (by kernel_rfl) (fun _ _ _ h => h) rfl (by intro wq hq; (try go_split_ands); go_simp; (try with_reducible rfl); exact hck) (hHeld) ?_; simp only [List.setIfInBounds_toArray, List.set_cons_zero, List.set_cons_succ])
    (refine wpAnyH_ready (rs := [6]) (by kernel_rfl) (by simp) ?_; refine AllReadyH.cons rfl (fun K hK => ?_) AllReadyH.nil; go_simp)
    refine (c_iPlanRun _ t s _ _ _ (l.take k) _ hT hTk).mono ?_; rintro e w7 ⟨rfl, hk7⟩
    replace hk0 := hk0.trans hk7
    replace B0 := B0.kept hk7
    replace hT := hT.keep hk7
    replace hDk := hDk.keep hk7
    clear hk7 hHeld hTk hL
    have hHeld : w7.cell? ⟨w2.heap.size, 0, none⟩ = some (.int .i64 t.start) ∧ w7.cell? ⟨w2.heap.size, 1, none⟩ = some (.slice A1 m1 c1) ∧ w7.cell? ⟨w2.heap.size, 2, none⟩ = some (.slice A2 m2 c2) := ⟨B0.cell 0, B0.cell 1, B0.cell 2⟩
    (refine hK.out _ _ (hHeld) (fun _ => ?_); clear hK K; try simp only [Act.put, List.setIfInBounds_toArray, List.set_cons_zero, List.set_cons_succ])
    (refine wpAnyH_ready (rs := [10]) (by kernel_rfl) (by simp) ?_; refine AllReadyH.cons rfl (fun K hK => ?_) AllReadyH.nil; go_simp)
    refine (c_iPlanRun _ t _ _ _ _ (l.drop k) _ hT hDk).mono ?_; rintro e w8 ⟨rfl, hk8⟩
    rw [HHalf2.out]
    replace hk0 := hk0.trans hk8
    replace B0 := B0.kept hk8
    replace hT := hT.keep hk8
    clear hk8 hHeld hDk
    have hHeld : w8.cell? ⟨w2.heap.size, 0, none⟩ = some (.int .i64 t.start) ∧ w8.cell? ⟨w2.heap.size, 1, none⟩ = some (.slice A1 m1 c1) ∧ w8.cell? ⟨w2.heap.size, 2, none⟩ = some (.slice A2 m2 c2) := ⟨B0.cell 0, B0.cell 1, B0.cell 2⟩
    (refine hK.out _ _ (hHeld) (fun _ => ?_); clear hK K; try simp only [Act.put, List.setIfInBounds_toArray, List.set_cons_zero, List.set_cons_succ])
    (refine take_val (i := 11) (v := .int .i64 x) rfl rfl (by kernel_rfl) (by kernel_rfl) (by kernel_rfl) (fun _ _ _ h => h) rfl (by intro wq hq; (try go_split_ands); go_simp; try with_reducible rfl) (hHeld) ?_; simp only [List.setIfInBounds_toArray, List.set_cons_zero, List.set_cons_succ])
    refine wpAnyH_done (by kernel_rfl) ?_ _
    clear hHeld
    have c0 := B0.cell
    by_cases hs : s = t.start
    · have hbit := HRe.out hs (by omega)
      rw [Int.toNat_natCast] at hbit
      have HRd : Hid (Sp.reached t = (Sp.reachedN t : Nat)) := by show _ = _; unfold Sp.reached; rw [if_pos HOk2.out]
      have hbD : (((Sp.reachedN t : Nat) : Int) / 2 ^ x).tmod 2 = 1 := by rw [tmod_bit, hbit]; rfl
      generalize Sp.reachedN t = D at *
      subst hs
      clear hbit
      go_wp2_with fail
      refine (c_iReached _ t _ hT).mono ?_; rintro e w9 ⟨rfl, hk9⟩
      rw [HRd.out]
      go_wp2_with fail
      go_ret
      exact ⟨rfl, hk0.trans hk9⟩
    · have hs2 : (s == t.start) = false := beq_eq_false_iff_ne.2 hs
      go_wp2_with fail
      go_ret
      exact ⟨rfl, hk0⟩

end Go.Proofs.Ytjmpfemlihjibaa
