/- The law FnStepsFrom, walked. No condition. -/
import Derived.Test.YtjmpfemlihjibaaLStepsLeast
import Derived.Test.YtjmpfemlihjibaaTake
import Derived.Deep.RegionHeld3
namespace Go.Proofs.Ytjmpfemlihjibaa
open Go.RowKit

/-- the least number of those that a choice takes -/
def Sp.leastOf (f : Nat → Int) (p : Nat → Bool) : Nat → Int
  | 0 => -1
  | j + 1 => if 0 ≤ f j ∧ p j = true ∧ (Sp.leastOf f p j < 0 ∨ f j < Sp.leastOf f p j) then f j else Sp.leastOf f p j
theorem leastOf_is (f : Nat → Int) (p : Nat → Bool) (n : Nat) : (Sp.leastOf f p n = -1 ∧ ∀ k, k < n → p k = true → f k < 0) ∨ (0 ≤ Sp.leastOf f p n ∧ (∃ k, k < n ∧ p k = true ∧ Sp.leastOf f p n = f k) ∧ ∀ k, k < n → p k = true → 0 ≤ f k → Sp.leastOf f p n ≤ f k) := by
  induction n with
  | zero => exact .inl ⟨rfl, fun k hk => by omega⟩
  | succ n ih =>
    unfold Sp.leastOf
    by_cases h : 0 ≤ f n ∧ p n = true ∧ (Sp.leastOf f p n < 0 ∨ f n < Sp.leastOf f p n)
    · rw [if_pos h]
      refine .inr ⟨h.1, ⟨n, by omega, h.2.1, rfl⟩, fun k hk hp h0 => ?_⟩
      by_cases e : k = n
      · subst e; omega
      · rcases ih with ⟨h1, h2⟩ | ⟨h1, _, h2⟩
        · have := h2 k (by omega) hp; omega
        · have := h2 k (by omega) hp h0
          have := h.2.2
          omega
    · rw [if_neg h]
      rcases ih with ⟨h1, h2⟩ | ⟨h1, ⟨k0, h2, h3, h4⟩, h5⟩
      · refine .inl ⟨h1, fun k hk hp => ?_⟩
        by_cases e : k = n
        · subst e
          refine Int.not_le.1 fun h0 => h ⟨h0, hp, .inl (by omega)⟩
        · exact h2 k (by omega) hp
      · refine .inr ⟨h1, ⟨k0, by omega, h3, h4⟩, fun k hk hp h0 => ?_⟩
        by_cases e : k = n
        · subst e
          refine Int.not_lt.1 fun h6 => h ⟨h0, hp, .inr h6⟩
        · exact h5 k (by omega) hp h0
/-- both ends tell the same -/
theorem least_start {t : Sp.Task} (hok : Sp.taskOk t = true) : Sp.leastOf (Sp.dist (Sp.rel t) (2 ^ t.start.toNat)) (Sp.run t.goal) 32 = Sp.toGo t t.start.toNat := by
  have hst := start_lt hok
  have hS := start_set hok
  have hG := truth_bd t.goal
  have hs0 : Sp.dist (Sp.rel t) (2 ^ t.start.toNat) t.start.toNat = 0 := (dist_zero_iff hS hst).2 (by rw [Nat.testBit_two_pow]; simp)
  have hb := toGo_bd t hst
  have hgoal : ∀ k, k < 32 → (Sp.run t.goal k = true ↔ (Sp.truth t.goal).testBit k = true) := fun k hk => by
    unfold Sp.truth; rw [Sp.testBit_setOf]; simp [hk]
  have hsum : ∀ k, k < 32 → Sp.run t.goal k = true → 0 ≤ Sp.dist (Sp.rel t) (2 ^ t.start.toNat) k → 0 ≤ Sp.toGo t t.start.toNat ∧ Sp.toGo t t.start.toNat ≤ Sp.dist (Sp.rel t) (2 ^ t.start.toNat) k := fun k hk hr h0 => by
    obtain ⟨n, hn⟩ := Int.eq_ofNat_of_zero_le h0
    have h1 : Sp.dist (Sp.rev (Sp.rel t)) (Sp.truth t.goal) k = 0 := (dist_zero_iff hG hk).2 ((hgoal k hk).1 hr)
    have h2 := dist_sum (Sp.rel t) hst hG n k hk hn (by omega)
    rw [h1] at h2
    exact ⟨h2.1, by have := h2.2; show Sp.dist (Sp.rev (Sp.rel t)) (Sp.truth t.goal) t.start.toNat ≤ _; omega⟩
  rcases leastOf_is (Sp.dist (Sp.rel t) (2 ^ t.start.toNat)) (Sp.run t.goal) 32 with ⟨h1, h2⟩ | ⟨h1, ⟨k, h2, h3, h4⟩, h5⟩
  · rw [h1]
    by_cases h : 0 ≤ Sp.toGo t t.start.toNat
    · obtain ⟨m, hm⟩ := Int.eq_ofNat_of_zero_le h
      obtain ⟨k, hk, h6, h7, _⟩ := dist_end (Sp.rel t) hst hG m t.start.toNat hst (by omega) hm
      have := h2 k hk ((hgoal k hk).2 h6)
      omega
    · omega
  · have h6 := hsum k h2 h3 (by omega)
    obtain ⟨m, hm⟩ := Int.eq_ofNat_of_zero_le h6.1
    obtain ⟨k2, hk2, h7, h8, h9⟩ := dist_end (Sp.rel t) hst hG m t.start.toNat hst (by omega) hm
    have h10 := h5 k2 hk2 ((hgoal k2 hk2).2 h7) h8
    rw [hs0] at h9
    omega
theorem from_sum {t : Sp.Task} (hok : Sp.taskOk t = true) {k : Nat} (hk : k < 32) (h0 : 0 ≤ Sp.dist (Sp.rel t) (2 ^ t.start.toNat) k) (h1 : 0 ≤ Sp.toGo t k) : 0 ≤ Sp.toGo t t.start.toNat ∧ Sp.toGo t t.start.toNat ≤ Sp.dist (Sp.rel t) (2 ^ t.start.toNat) k + Sp.toGo t k := by
  obtain ⟨n, hn⟩ := Int.eq_ofNat_of_zero_le h0
  have h2 := dist_sum (Sp.rel t) (start_lt hok) (truth_bd t.goal) n k hk hn h1
  rw [hn]
  exact h2
theorem from_reached {t : Sp.Task} (hok : Sp.taskOk t = true) {j : Nat} (hj : j < 32) : decide (0 ≤ Sp.dist (Sp.rel t) (2 ^ t.start.toNat) j) = (Sp.reachedN t).testBit j := by
  rw [Bool.eq_iff_iff, decide_eq_true_eq]
  exact dist_iff (start_set hok) hj
theorem from_zero {t : Sp.Task} (hok : Sp.taskOk t = true) : Sp.dist (Sp.rel t) (2 ^ t.start.toNat) t.start.toNat = 0 :=
  (dist_zero_iff (start_set hok) (start_lt hok)).2 (by rw [Nat.testBit_two_pow]; simp)

set_option maxHeartbeats 2000000 in
set_option maxRecDepth 100000 in
theorem l_StepsFromFn (A : Option Addr) (n c : Nat) (w : World) (h : BytesV w A n ∧ n ≤ c ∧ c ≤ maxLen) : Calls Try.prog 4 #[.slice A n c] w (RetK (.bool true) w) := by
  by_cases hn : 1048576 < n
  · have hn1 : (1048576 : Int) < (n : Int) := by omega
    go_enter Try.func4, Try.ntmps4
    go_wp2_with fail
    go_ret
    exact ⟨rfl, Kept.refl _⟩
  have hn1 : ¬ (1048576 : Int) < (n : Int) := by omega
  go_enter Try.func4, Try.ntmps4
  go_wp2_with fail
  refine (c_drawStepsFrom A n c w h).mono ?_; rintro e w2 ⟨tv, rfl, ⟨t, hTV⟩, hk2⟩
  obtain ⟨A1, m1, c1, A2, m2, c2, rfl⟩ := hTV.form
  have hk0 := hk2.alloc (.cells #[.int .i64 t.start, .slice A1 m1 c1, .slice A2 m2 c2] 26)
  have hT := hTV.keep ((Kept.refl w2).alloc (.cells #[.int .i64 t.start, .slice A1 m1 c1, .slice A2 m2 c2] 26))
  have B0 := Blk.new w2 26 #[.int .i64 t.start, .slice A1 m1 c1, .slice A2 m2 c2]
  clear hk2 hTV
  go_wp2_with fail
  refine (c_iStepsFrom _ t _ hT).mono ?_; rintro e w3 ⟨v, rfl, ⟨A3, c3, rfl, hO⟩, hk3⟩
  replace hk0 := hk0.trans hk3
  replace B0 := B0.kept hk3
  replace hT := hT.keep hk3
  clear hk3
  have c0 := B0.cell
  go_wp2_with fail
  refine (c_sStepsFrom _ t _ hT).mono ?_; rintro e w4 ⟨v, rfl, ⟨A4, c4, rfl, hO4⟩, hk4⟩
  replace hO := hO.keep hk4
  replace hk0 := hk0.trans hk4
  replace B0 := B0.kept hk4
  replace hT := hT.keep hk4
  clear hk4 c0
  go_wp2_with fail
  refine (c_lsameInts _ _ _ _ _ _ _ _ _ hO.1 hO4.1 rfl).mono ?_; rintro e w5 ⟨rfl, hk5⟩
  replace hO := hO.keep hk5
  replace hk0 := hk0.trans hk5
  replace B0 := B0.kept hk5
  replace hT := hT.keep hk5
  clear hk5 hO4
  cases ht : Sp.taskOk t
  · have HK := Lib.hid ht
    have HL : Hid ((Sp.stepsFrom t).length = 0) := by show _ = _; rw [stepsFrom_no ht]; rfl
    rw [HL.out]
    clear ht
    have c0 := B0.cell
    go_wp2_with fail
    refine (c_iTaskValid _ t _ hT).mono ?_; rintro e w6 ⟨rfl, hk6⟩
    rw [HK.out]
    go_wp2_with fail
    refine (c_alive _).mono ?_; rintro e w7 ⟨rfl, hk7⟩
    go_wp2_with fail
    go_ret
    exact ⟨rfl, (hk0.trans hk6).trans hk7⟩
  have HK := Lib.hid ht
  have HL : Hid ((Sp.stepsFrom t).length = 32) := by show _ = _; rw [stepsFrom_ok ht, distList_len]
  have HL2 : Hid ((Sp.stepsLeast t).length = 32) := by show _ = _; rw [stepsLeast_ok ht, distList_len]
  have HRd : Hid (Sp.reached t = (Sp.reachedN t : Nat)) := by show _ = _; unfold Sp.reached; rw [if_pos ht]
  obtain ⟨g, rfl, _, _, hO2⟩ := hO.2 (by rw [HL.out]; omega)
  rw [HL.out] at hO2 ⊢
  rw [stepsFrom_ok ht] at hO2
  have hF := hO2.dist
  have hrl := reachedN_lt ht
  have hst := start_lt ht
  have HFr := Lib.hid (fun j (hj : j < 32) => from_reached ht hj)
  have HSum := Lib.hid (fun k (hk : k < 32) => @from_sum t ht k hk)
  have HZ0 := Lib.hid (from_zero ht)
  have HEnd := Lib.hid (least_start ht)
  have HBd := Lib.hid (fun j (hj : j < 32) => dist_bd (rel := Sp.rel t) (start_set ht) j hj)
  obtain ⟨hs0, hs1⟩ := Sp.taskOk_start ht
  obtain ⟨st, Hst2⟩ : ∃ st : Nat, Hid (t.start = (st : Int)) := Int.eq_ofNat_of_zero_le hs0
  clear hO hO2
  have c0 := B0.cell
  go_wp2_with fail
  refine (c_iStepsLeast _ t _ hT).mono ?_; rintro e w6 ⟨v, rfl, hO, hk6⟩
  obtain ⟨g2, c5, rfl, hg2, hO2⟩ := outInts_row hO HL2.out
  have hR := hO2.toGo ht
  have HGo := Lib.hid (show ∀ s, Sp.dist (Sp.relB t) (Sp.truth t.goal) s = Sp.toGo t s from fun _ => rfl)
  replace hR := hR.congr (f' := Sp.toGo t) fun s _ => HGo.out s
  replace hk0 := hk0.trans hk6
  replace B0 := B0.kept hk6
  replace hT := hT.keep hk6
  replace hF := hF.keep hk6
  clear hk6 c0 ht hO hO2
  have c0 := B0.cell
  go_wp2_with fail
  refine (c_iReached _ t _ hT).mono ?_; rintro e w7 ⟨rfl, hk7⟩
  rw [HRd.out]
  have hG := hT.goal
  replace hk0 := hk0.trans hk7
  replace B0 := B0.kept hk7
  replace hG := hG.keep hk7
  replace hF := hF.keep hk7
  replace hR := hR.keep hk7
  clear hk7 c0 hT
  rw [Hst2.out] at B0
  rw [Hst2.out, Int.toNat_natCast] at hst HSum HZ0 HEnd HFr HBd hF
  have hst3 : ¬ (32 : Int) ≤ (st : Int) := by omega
  clear Hst2 hs0 hs1
  obtain ⟨D, HD⟩ : ∃ D, Hid (Sp.reachedN t = D) := ⟨_, rfl⟩
  rw [HD.out] at hrl HFr ⊢
  obtain ⟨f, Hf⟩ : ∃ f, Hid (Sp.dist (Sp.rel t) (2 ^ st) = f) := ⟨_, rfl⟩
  rw [Hf.out] at HSum HZ0 HEnd HFr HBd hF
  go_wp2_with fail
  go_loopw [8, 7] (fun i v wr => ∃ j : Nat, j ≤ 32 ∧ i = .int .i64 j ∧ v = .int .i64 (Sp.leastOf f (Sp.run t.goal) j) ∧ Kept w7 wr) (fun i _ _ => 32 - (intOf i).toNat)
  case atStart => exact ⟨0, by omega, rfl, rfl, Kept.refl _⟩
  case round =>
    obtain ⟨j, hj, rfl, rfl, hkp⟩ := hrel
    have c0 := (B0.kept hkp).cell
    by_cases hlt : j < 32
    · have cf := (hF.keep hkp).2.2 j hlt
      have cr := (hR.keep hkp).2.2 j hlt
      have cs := (hR.keep hkp).2.2 st hst
      have hfb := HBd.out j hlt
      have hrb := toGo_bd t hlt
      have hsb := toGo_bd t hst
      have HFr2 := Lib.hid (HFr.out j hlt)
      have HSum2 := Lib.hid (HSum.out j hlt)
      have HLe : Hid (Sp.leastOf f (Sp.run t.goal) (j + 1) = if 0 ≤ f j ∧ Sp.run t.goal j = true ∧ (Sp.leastOf f (Sp.run t.goal) j < 0 ∨ f j < Sp.leastOf f (Sp.run t.goal) j) then f j else Sp.leastOf f (Sp.run t.goal) j) := rfl
      obtain ⟨L, HLd⟩ : ∃ L, Hid (Sp.leastOf f (Sp.run t.goal) j = L) := ⟨_, rfl⟩
      obtain ⟨L2, HLd2⟩ : ∃ L2, Hid (Sp.leastOf f (Sp.run t.goal) (j + 1) = L2) := ⟨_, rfl⟩
      rw [HLd.out, HLd2.out] at HLe
      rw [HLd.out]
      obtain ⟨x, HX⟩ : ∃ x, Hid (f j = x) := ⟨_, rfl⟩
      obtain ⟨y, HY⟩ : ∃ y, Hid (Sp.toGo t j = y) := ⟨_, rfl⟩
      obtain ⟨z, HZ⟩ : ∃ z, Hid (Sp.toGo t st = z) := ⟨_, rfl⟩
      rw [HX.out] at cf hfb HFr2 HSum2 HLe
      rw [HY.out] at cr hrb HSum2
      rw [HZ.out] at cs hsb HSum2
      have hbD := tmod_bit D j
      rw [← HFr2.out] at hbD
      have hgr := (hG.keep hkp)
      have HGo3 := Lib.hid (Sp.taskOk_goal HK.out)
      obtain ⟨b, Hb⟩ : ∃ b, Hid (Sp.run t.goal j = b) := ⟨_, rfl⟩
      rw [Hb.out] at HLe
      clear HFr2
      by_cases hx : x < 0
      · rw [decide_eq_false (by omega)] at hbD
        have HE : Hid (L2 = L) := by show _ = _; rw [HLe.out, if_neg (by omega)]
        have hx2 : ¬ 0 ≤ x := by omega
        clear HSum2 HLe
        go_wp2_with fail
        go_quiet (fail)
        go_wp2_with fail
        clear cf cr cs c0 hgr
        have hkz := hkp.drewN nq
        have cf3 := (hF.keep hkz.drew).2.2 j hlt
        have cr3 := (hR.keep hkz.drew).2.2 j hlt
        have cs3 := (hR.keep hkz.drew).2.2 st hst
        have cb3 := (B0.kept hkz.drew).cell 0
        rw [HX.out] at cf3
        rw [HY.out] at cr3
        rw [HZ.out] at cs3
        refine wp_region_held_drew (S := fun w' => w'.cell? ⟨g, j, none⟩ = some (.int .i64 x) ∧ w'.cell? ⟨g2, j, none⟩ = some (.int .i64 y) ∧ w'.cell? ⟨g2, st, none⟩ = some (.int .i64 z) ∧ w'.cell? ⟨w2.heap.size, 0, none⟩ = some (.int .i64 st)) (by kernel_rfl) ⟨cf3, cr3, cs3, cb3⟩ (fun hHeld => ?_)
        (refine take_val (i := 0) (v := .slice (some ⟨g, 0, none⟩) 32 c3) rfl rfl (by kernel_rfl) (by kernel_rfl) (by kernel_rfl) (fun _ _ _ h => h) rfl (by intro wq hq; (try go_split_ands); go_simp; try with_reducible rfl) (hHeld) ?_; simp only [List.setIfInBounds_toArray, List.set_cons_zero, List.set_cons_succ])
        (refine take_val (i := 1) (v := .int .i64 j) rfl rfl (by kernel_rfl) (by kernel_rfl) (by kernel_rfl) (fun _ _ _ h => h) rfl (by intro wq hq; (try go_split_ands); go_simp; try with_reducible rfl) (hHeld) ?_; simp only [List.setIfInBounds_toArray, List.set_cons_zero, List.set_cons_succ])
        (refine take_val (i := 2) (v := .pointer (some ⟨g, j, none⟩)) rfl rfl (by kernel_rfl) (by kernel_rfl) (by kernel_rfl) (fun _ _ _ h => h) rfl (by intro wq hq; (try go_split_ands); go_simp; try with_reducible rfl) (hHeld) ?_; simp only [List.setIfInBounds_toArray, List.set_cons_zero, List.set_cons_succ])
        (refine take_val (i := 3) (v := .int .i64 x) rfl rfl (by kernel_rfl) (by kernel_rfl) (by kernel_rfl) (fun _ _ _ h => h) rfl (by intro wq hq; (try go_split_ands); go_simp; try with_reducible rfl) (hHeld) ?_; simp only [List.setIfInBounds_toArray, List.set_cons_zero, List.set_cons_succ])
        (refine take_val (i := 4) (v := .bool false) rfl rfl (by kernel_rfl) (by kernel_rfl) (by kernel_rfl) (fun _ _ _ h => h) rfl (by intro wq hq; (try go_split_ands); go_simp; try with_reducible rfl) (hHeld) ?_; simp only [List.setIfInBounds_toArray, List.set_cons_zero, List.set_cons_succ])
        (refine take_val (i := 5) (v := .bool false) rfl rfl (by kernel_rfl) (by kernel_rfl) (by kernel_rfl) (fun _ _ _ h => h) rfl (by intro wq hq; (try go_split_ands); go_simp; try with_reducible rfl) (hHeld) ?_; simp only [List.setIfInBounds_toArray, List.set_cons_zero, List.set_cons_succ])
        (refine take_skip (i := 6) rfl rfl (by kernel_rfl) (by kernel_rfl) (by kernel_rfl) (fun _ _ _ h => h) rfl (hHeld) ?_; simp only [List.setIfInBounds_toArray, List.set_cons_zero, List.set_cons_succ])
        (refine take_skip (i := 7) rfl rfl (by kernel_rfl) (by kernel_rfl) (by kernel_rfl) (fun _ _ _ h => h) rfl (hHeld) ?_; simp only [List.setIfInBounds_toArray, List.set_cons_zero, List.set_cons_succ])
        (refine take_skip (i := 8) rfl rfl (by kernel_rfl) (by kernel_rfl) (by kernel_rfl) (fun _ _ _ h => h) rfl (hHeld) ?_; simp only [List.setIfInBounds_toArray, List.set_cons_zero, List.set_cons_succ])
        (refine take_skip (i := 9) rfl rfl (by kernel_rfl) (by kernel_rfl) (by kernel_rfl) (fun _ _ _ h => h) rfl (hHeld) ?_; simp only [List.setIfInBounds_toArray, List.set_cons_zero, List.set_cons_succ])
        (refine take_skip (i := 10) rfl rfl (by kernel_rfl) (by kernel_rfl) (by kernel_rfl) (fun _ _ _ h => h) rfl (hHeld) ?_; simp only [List.setIfInBounds_toArray, List.set_cons_zero, List.set_cons_succ])
        (refine take_val (i := 11) (v := .bool false) rfl rfl (by kernel_rfl) (by kernel_rfl) (by kernel_rfl) (fun _ _ _ h => h) rfl (by intro wq hq; (try go_split_ands); go_simp; try with_reducible rfl) (hHeld) ?_; simp only [List.setIfInBounds_toArray, List.set_cons_zero, List.set_cons_succ])
        (refine take_val (i := 12) (v := .bool false) rfl rfl (by kernel_rfl) (by kernel_rfl) (by kernel_rfl) (fun _ _ _ h => h) rfl (by intro wq hq; (try go_split_ands); go_simp; try with_reducible rfl) (hHeld) ?_; simp only [List.setIfInBounds_toArray, List.set_cons_zero, List.set_cons_succ])
        (refine take_skip (i := 13) rfl rfl (by kernel_rfl) (by kernel_rfl) (by kernel_rfl) (fun _ _ _ h => h) rfl (hHeld) ?_; simp only [List.setIfInBounds_toArray, List.set_cons_zero, List.set_cons_succ])
        (refine take_skip (i := 14) rfl rfl (by kernel_rfl) (by kernel_rfl) (by kernel_rfl) (fun _ _ _ h => h) rfl (hHeld) ?_; simp only [List.setIfInBounds_toArray, List.set_cons_zero, List.set_cons_succ])
        (refine take_skip (i := 15) rfl rfl (by kernel_rfl) (by kernel_rfl) (by kernel_rfl) (fun _ _ _ h => h) rfl (hHeld) ?_; simp only [List.setIfInBounds_toArray, List.set_cons_zero, List.set_cons_succ])
        (refine take_skip (i := 16) rfl rfl (by kernel_rfl) (by kernel_rfl) (by kernel_rfl) (fun _ _ _ h => h) rfl (hHeld) ?_; simp only [List.setIfInBounds_toArray, List.set_cons_zero, List.set_cons_succ])
        (refine take_skip (i := 17) rfl rfl (by kernel_rfl) (by kernel_rfl) (by kernel_rfl) (fun _ _ _ h => h) rfl (hHeld) ?_; simp only [List.setIfInBounds_toArray, List.set_cons_zero, List.set_cons_succ])
        (refine take_skip (i := 18) rfl rfl (by kernel_rfl) (by kernel_rfl) (by kernel_rfl) (fun _ _ _ h => h) rfl (hHeld) ?_; simp only [List.setIfInBounds_toArray, List.set_cons_zero, List.set_cons_succ])
        (refine take_skip (i := 19) rfl rfl (by kernel_rfl) (by kernel_rfl) (by kernel_rfl) (fun _ _ _ h => h) rfl (hHeld) ?_; simp only [List.setIfInBounds_toArray, List.set_cons_zero, List.set_cons_succ])
        (refine take_skip (i := 20) rfl rfl (by kernel_rfl) (by kernel_rfl) (by kernel_rfl) (fun _ _ _ h => h) rfl (hHeld) ?_; simp only [List.setIfInBounds_toArray, List.set_cons_zero, List.set_cons_succ])
        (refine take_skip (i := 21) rfl rfl (by kernel_rfl) (by kernel_rfl) (by kernel_rfl) (fun _ _ _ h => h) rfl (hHeld) ?_; simp only [List.setIfInBounds_toArray, List.set_cons_zero, List.set_cons_succ])
        (refine take_skip (i := 22) rfl rfl (by kernel_rfl) (by kernel_rfl) (by kernel_rfl) (fun _ _ _ h => h) rfl (hHeld) ?_; simp only [List.setIfInBounds_toArray, List.set_cons_zero, List.set_cons_succ])
        (refine take_skip (i := 23) rfl rfl (by kernel_rfl) (by kernel_rfl) (by kernel_rfl) (fun _ _ _ h => h) rfl (hHeld) ?_; simp only [List.setIfInBounds_toArray, List.set_cons_zero, List.set_cons_succ])
        (refine take_skip (i := 24) rfl rfl (by kernel_rfl) (by kernel_rfl) (by kernel_rfl) (fun _ _ _ h => h) rfl (hHeld) ?_; simp only [List.setIfInBounds_toArray, List.set_cons_zero, List.set_cons_succ])
        (refine take_skip (i := 25) rfl rfl (by kernel_rfl) (by kernel_rfl) (by kernel_rfl) (fun _ _ _ h => h) rfl (hHeld) ?_; simp only [List.setIfInBounds_toArray, List.set_cons_zero, List.set_cons_succ])
        (refine take_skip (i := 26) rfl rfl (by kernel_rfl) (by kernel_rfl) (by kernel_rfl) (fun _ _ _ h => h) rfl (hHeld) ?_; simp only [List.setIfInBounds_toArray, List.set_cons_zero, List.set_cons_succ])
        (refine take_skip (i := 27) rfl rfl (by kernel_rfl) (by kernel_rfl) (by kernel_rfl) (fun _ _ _ h => h) rfl (hHeld) ?_; simp only [List.setIfInBounds_toArray, List.set_cons_zero, List.set_cons_succ])
        (refine take_skip (i := 28) rfl rfl (by kernel_rfl) (by kernel_rfl) (by kernel_rfl) (fun _ _ _ h => h) rfl (hHeld) ?_; simp only [List.setIfInBounds_toArray, List.set_cons_zero, List.set_cons_succ])
        (refine take_skip (i := 29) rfl rfl (by kernel_rfl) (by kernel_rfl) (by kernel_rfl) (fun _ _ _ h => h) rfl (hHeld) ?_; simp only [List.setIfInBounds_toArray, List.set_cons_zero, List.set_cons_succ])
        (refine take_skip (i := 30) rfl rfl (by kernel_rfl) (by kernel_rfl) (by kernel_rfl) (fun _ _ _ h => h) rfl (hHeld) ?_; simp only [List.setIfInBounds_toArray, List.set_cons_zero, List.set_cons_succ])
        (refine take_skip (i := 31) rfl rfl (by kernel_rfl) (by kernel_rfl) (by kernel_rfl) (fun _ _ _ h => h) rfl (hHeld) ?_; simp only [List.setIfInBounds_toArray, List.set_cons_zero, List.set_cons_succ])
        (refine take_skip (i := 32) rfl rfl (by kernel_rfl) (by kernel_rfl) (by kernel_rfl) (fun _ _ _ h => h) rfl (hHeld) ?_; simp only [List.setIfInBounds_toArray, List.set_cons_zero, List.set_cons_succ])
        (refine take_skip (i := 33) rfl rfl (by kernel_rfl) (by kernel_rfl) (by kernel_rfl) (fun _ _ _ h => h) rfl (hHeld) ?_; simp only [List.setIfInBounds_toArray, List.set_cons_zero, List.set_cons_succ])
        (refine take_skip (i := 34) rfl rfl (by kernel_rfl) (by kernel_rfl) (by kernel_rfl) (fun _ _ _ h => h) rfl (hHeld) ?_; simp only [List.setIfInBounds_toArray, List.set_cons_zero, List.set_cons_succ])
        (refine take_skip (i := 35) rfl rfl (by kernel_rfl) (by kernel_rfl) (by kernel_rfl) (fun _ _ _ h => h) rfl (hHeld) ?_; simp only [List.setIfInBounds_toArray, List.set_cons_zero, List.set_cons_succ])
        (refine take_val (i := 36) (v := .bool false) rfl rfl (by kernel_rfl) (by kernel_rfl) (by kernel_rfl) (fun _ _ _ h => h) rfl (by intro wq hq; (try go_split_ands); go_simp; try with_reducible rfl) (hHeld) ?_; simp only [List.setIfInBounds_toArray, List.set_cons_zero, List.set_cons_succ])
        refine wpAnyH_done (by kernel_rfl) ?_ _
        clear cf3 cr3 cs3 cb3 hHeld
        go_wp2_with fail
        exact ⟨⟨j + 1, by omega, by go_num, by rw [HLd2.out, HE.out], hkz.drew⟩, by simp [intOf]; omega⟩
      · have hx2 : 0 ≤ x := by omega
        rw [decide_eq_true hx2] at hbD
        go_wp2_with fail
        go_quiet (fail)
        have hk8 := hkp.drewN nq
        have cf8 := (hF.keep hk8).2.2 j hlt
        rw [HX.out] at cf8
        have hgr8 := hG.keep hk8
        have cb8 := (B0.kept hk8).cell
        generalize wr.drewN nq = w8 at *
        go_wp2_with fail
        refine (c_iCodeRun _ _ _ _ j _ hgr8 HGo3.out hlt).mono ?_; rintro e w9 ⟨rfl, hk9⟩
        rw [Hb.out]
        replace hk8 := hk8.trans hk9
        have cf9 := (hF.keep hk8).2.2 j hlt
        rw [HX.out] at cf9
        clear hk9 cf8 hgr8 cb8
        cases b
        · have HE : Hid (L2 = L) := by show _ = _; rw [HLe.out, if_neg (by simp)]
          go_wp2_with fail
          clear cf cr cs c0 hgr
          by_cases hy : y < 0
          · have hy2 : ¬ 0 ≤ y := by omega
            have hkz := hk8
            have cf3 := (hF.keep hkz.drew).2.2 j hlt
            have cr3 := (hR.keep hkz.drew).2.2 j hlt
            have cs3 := (hR.keep hkz.drew).2.2 st hst
            have cb3 := (B0.kept hkz.drew).cell 0
            rw [HX.out] at cf3
            rw [HY.out] at cr3
            rw [HZ.out] at cs3
            refine wp_region_held_drew (S := fun w' => w'.cell? ⟨g, j, none⟩ = some (.int .i64 x) ∧ w'.cell? ⟨g2, j, none⟩ = some (.int .i64 y) ∧ w'.cell? ⟨g2, st, none⟩ = some (.int .i64 z) ∧ w'.cell? ⟨w2.heap.size, 0, none⟩ = some (.int .i64 st)) (by kernel_rfl) ⟨cf3, cr3, cs3, cb3⟩ (fun hHeld => ?_)
            (refine take_val (i := 0) (v := .slice (some ⟨g, 0, none⟩) 32 c3) rfl rfl (by kernel_rfl) (by kernel_rfl) (by kernel_rfl) (fun _ _ _ h => h) rfl (by intro wq hq; (try go_split_ands); go_simp; try with_reducible rfl) (hHeld) ?_; simp only [List.setIfInBounds_toArray, List.set_cons_zero, List.set_cons_succ])
            (refine take_val (i := 1) (v := .int .i64 j) rfl rfl (by kernel_rfl) (by kernel_rfl) (by kernel_rfl) (fun _ _ _ h => h) rfl (by intro wq hq; (try go_split_ands); go_simp; try with_reducible rfl) (hHeld) ?_; simp only [List.setIfInBounds_toArray, List.set_cons_zero, List.set_cons_succ])
            (refine take_val (i := 2) (v := .pointer (some ⟨g, j, none⟩)) rfl rfl (by kernel_rfl) (by kernel_rfl) (by kernel_rfl) (fun _ _ _ h => h) rfl (by intro wq hq; (try go_split_ands); go_simp; try with_reducible rfl) (hHeld) ?_; simp only [List.setIfInBounds_toArray, List.set_cons_zero, List.set_cons_succ])
            (refine take_val (i := 3) (v := .int .i64 x) rfl rfl (by kernel_rfl) (by kernel_rfl) (by kernel_rfl) (fun _ _ _ h => h) rfl (by intro wq hq; (try go_split_ands); go_simp; try with_reducible rfl) (hHeld) ?_; simp only [List.setIfInBounds_toArray, List.set_cons_zero, List.set_cons_succ])
            (refine take_val (i := 4) (v := .bool true) rfl rfl (by kernel_rfl) (by kernel_rfl) (by kernel_rfl) (fun _ _ _ h => h) rfl (by intro wq hq; (try go_split_ands); go_simp; try with_reducible rfl) (hHeld) ?_; simp only [List.setIfInBounds_toArray, List.set_cons_zero, List.set_cons_succ])
            (refine take_val (i := 5) (v := .bool true) rfl rfl (by kernel_rfl) (by kernel_rfl) (by kernel_rfl) (fun _ _ _ h => h) rfl (by intro wq hq; (try go_split_ands); go_simp; try with_reducible rfl) (hHeld) ?_; simp only [List.setIfInBounds_toArray, List.set_cons_zero, List.set_cons_succ])
            (refine take_val (i := 6) (v := .slice (some ⟨g2, 0, none⟩) 32 c5) rfl rfl (by kernel_rfl) (by kernel_rfl) (by kernel_rfl) (fun _ _ _ h => h) rfl (by intro wq hq; (try go_split_ands); go_simp; try with_reducible rfl) (hHeld) ?_; simp only [List.setIfInBounds_toArray, List.set_cons_zero, List.set_cons_succ])
            (refine take_val (i := 7) (v := .int .i64 j) rfl rfl (by kernel_rfl) (by kernel_rfl) (by kernel_rfl) (fun _ _ _ h => h) rfl (by intro wq hq; (try go_split_ands); go_simp; try with_reducible rfl) (hHeld) ?_; simp only [List.setIfInBounds_toArray, List.set_cons_zero, List.set_cons_succ])
            (refine take_val (i := 8) (v := .pointer (some ⟨g2, j, none⟩)) rfl rfl (by kernel_rfl) (by kernel_rfl) (by kernel_rfl) (fun _ _ _ h => h) rfl (by intro wq hq; (try go_split_ands); go_simp; try with_reducible rfl) (hHeld) ?_; simp only [List.setIfInBounds_toArray, List.set_cons_zero, List.set_cons_succ])
            (refine take_val (i := 9) (v := .int .i64 y) rfl rfl (by kernel_rfl) (by kernel_rfl) (by kernel_rfl) (fun _ _ _ h => h) rfl (by intro wq hq; (try go_split_ands); go_simp; try with_reducible rfl) (hHeld) ?_; simp only [List.setIfInBounds_toArray, List.set_cons_zero, List.set_cons_succ])
            (refine take_val (i := 10) (v := .bool false) rfl rfl (by kernel_rfl) (by kernel_rfl) (by kernel_rfl) (fun _ _ _ h => h) rfl (by intro wq hq; (try go_split_ands); go_simp; try with_reducible rfl) (hHeld) ?_; simp only [List.setIfInBounds_toArray, List.set_cons_zero, List.set_cons_succ])
            (refine take_val (i := 11) (v := .bool false) rfl rfl (by kernel_rfl) (by kernel_rfl) (by kernel_rfl) (fun _ _ _ h => h) rfl (by intro wq hq; (try go_split_ands); go_simp; try with_reducible rfl) (hHeld) ?_; simp only [List.setIfInBounds_toArray, List.set_cons_zero, List.set_cons_succ])
            (refine take_val (i := 12) (v := .bool false) rfl rfl (by kernel_rfl) (by kernel_rfl) (by kernel_rfl) (fun _ _ _ h => h) rfl (by intro wq hq; (try go_split_ands); go_simp; try with_reducible rfl) (hHeld) ?_; simp only [List.setIfInBounds_toArray, List.set_cons_zero, List.set_cons_succ])
            (refine take_skip (i := 13) rfl rfl (by kernel_rfl) (by kernel_rfl) (by kernel_rfl) (fun _ _ _ h => h) rfl (hHeld) ?_; simp only [List.setIfInBounds_toArray, List.set_cons_zero, List.set_cons_succ])
            (refine take_skip (i := 14) rfl rfl (by kernel_rfl) (by kernel_rfl) (by kernel_rfl) (fun _ _ _ h => h) rfl (hHeld) ?_; simp only [List.setIfInBounds_toArray, List.set_cons_zero, List.set_cons_succ])
            (refine take_skip (i := 15) rfl rfl (by kernel_rfl) (by kernel_rfl) (by kernel_rfl) (fun _ _ _ h => h) rfl (hHeld) ?_; simp only [List.setIfInBounds_toArray, List.set_cons_zero, List.set_cons_succ])
            (refine take_skip (i := 16) rfl rfl (by kernel_rfl) (by kernel_rfl) (by kernel_rfl) (fun _ _ _ h => h) rfl (hHeld) ?_; simp only [List.setIfInBounds_toArray, List.set_cons_zero, List.set_cons_succ])
            (refine take_skip (i := 17) rfl rfl (by kernel_rfl) (by kernel_rfl) (by kernel_rfl) (fun _ _ _ h => h) rfl (hHeld) ?_; simp only [List.setIfInBounds_toArray, List.set_cons_zero, List.set_cons_succ])
            (refine take_skip (i := 18) rfl rfl (by kernel_rfl) (by kernel_rfl) (by kernel_rfl) (fun _ _ _ h => h) rfl (hHeld) ?_; simp only [List.setIfInBounds_toArray, List.set_cons_zero, List.set_cons_succ])
            (refine take_skip (i := 19) rfl rfl (by kernel_rfl) (by kernel_rfl) (by kernel_rfl) (fun _ _ _ h => h) rfl (hHeld) ?_; simp only [List.setIfInBounds_toArray, List.set_cons_zero, List.set_cons_succ])
            (refine take_skip (i := 20) rfl rfl (by kernel_rfl) (by kernel_rfl) (by kernel_rfl) (fun _ _ _ h => h) rfl (hHeld) ?_; simp only [List.setIfInBounds_toArray, List.set_cons_zero, List.set_cons_succ])
            (refine take_skip (i := 21) rfl rfl (by kernel_rfl) (by kernel_rfl) (by kernel_rfl) (fun _ _ _ h => h) rfl (hHeld) ?_; simp only [List.setIfInBounds_toArray, List.set_cons_zero, List.set_cons_succ])
            (refine take_skip (i := 22) rfl rfl (by kernel_rfl) (by kernel_rfl) (by kernel_rfl) (fun _ _ _ h => h) rfl (hHeld) ?_; simp only [List.setIfInBounds_toArray, List.set_cons_zero, List.set_cons_succ])
            (refine take_skip (i := 23) rfl rfl (by kernel_rfl) (by kernel_rfl) (by kernel_rfl) (fun _ _ _ h => h) rfl (hHeld) ?_; simp only [List.setIfInBounds_toArray, List.set_cons_zero, List.set_cons_succ])
            (refine take_skip (i := 24) rfl rfl (by kernel_rfl) (by kernel_rfl) (by kernel_rfl) (fun _ _ _ h => h) rfl (hHeld) ?_; simp only [List.setIfInBounds_toArray, List.set_cons_zero, List.set_cons_succ])
            (refine take_skip (i := 25) rfl rfl (by kernel_rfl) (by kernel_rfl) (by kernel_rfl) (fun _ _ _ h => h) rfl (hHeld) ?_; simp only [List.setIfInBounds_toArray, List.set_cons_zero, List.set_cons_succ])
            (refine take_skip (i := 26) rfl rfl (by kernel_rfl) (by kernel_rfl) (by kernel_rfl) (fun _ _ _ h => h) rfl (hHeld) ?_; simp only [List.setIfInBounds_toArray, List.set_cons_zero, List.set_cons_succ])
            (refine take_skip (i := 27) rfl rfl (by kernel_rfl) (by kernel_rfl) (by kernel_rfl) (fun _ _ _ h => h) rfl (hHeld) ?_; simp only [List.setIfInBounds_toArray, List.set_cons_zero, List.set_cons_succ])
            (refine take_skip (i := 28) rfl rfl (by kernel_rfl) (by kernel_rfl) (by kernel_rfl) (fun _ _ _ h => h) rfl (hHeld) ?_; simp only [List.setIfInBounds_toArray, List.set_cons_zero, List.set_cons_succ])
            (refine take_skip (i := 29) rfl rfl (by kernel_rfl) (by kernel_rfl) (by kernel_rfl) (fun _ _ _ h => h) rfl (hHeld) ?_; simp only [List.setIfInBounds_toArray, List.set_cons_zero, List.set_cons_succ])
            (refine take_skip (i := 30) rfl rfl (by kernel_rfl) (by kernel_rfl) (by kernel_rfl) (fun _ _ _ h => h) rfl (hHeld) ?_; simp only [List.setIfInBounds_toArray, List.set_cons_zero, List.set_cons_succ])
            (refine take_skip (i := 31) rfl rfl (by kernel_rfl) (by kernel_rfl) (by kernel_rfl) (fun _ _ _ h => h) rfl (hHeld) ?_; simp only [List.setIfInBounds_toArray, List.set_cons_zero, List.set_cons_succ])
            (refine take_skip (i := 32) rfl rfl (by kernel_rfl) (by kernel_rfl) (by kernel_rfl) (fun _ _ _ h => h) rfl (hHeld) ?_; simp only [List.setIfInBounds_toArray, List.set_cons_zero, List.set_cons_succ])
            (refine take_skip (i := 33) rfl rfl (by kernel_rfl) (by kernel_rfl) (by kernel_rfl) (fun _ _ _ h => h) rfl (hHeld) ?_; simp only [List.setIfInBounds_toArray, List.set_cons_zero, List.set_cons_succ])
            (refine take_skip (i := 34) rfl rfl (by kernel_rfl) (by kernel_rfl) (by kernel_rfl) (fun _ _ _ h => h) rfl (hHeld) ?_; simp only [List.setIfInBounds_toArray, List.set_cons_zero, List.set_cons_succ])
            (refine take_skip (i := 35) rfl rfl (by kernel_rfl) (by kernel_rfl) (by kernel_rfl) (fun _ _ _ h => h) rfl (hHeld) ?_; simp only [List.setIfInBounds_toArray, List.set_cons_zero, List.set_cons_succ])
            (refine take_val (i := 36) (v := .bool false) rfl rfl (by kernel_rfl) (by kernel_rfl) (by kernel_rfl) (fun _ _ _ h => h) rfl (by intro wq hq; (try go_split_ands); go_simp; try with_reducible rfl) (hHeld) ?_; simp only [List.setIfInBounds_toArray, List.set_cons_zero, List.set_cons_succ])
            refine wpAnyH_done (by kernel_rfl) ?_ _
            clear cf3 cr3 cs3 cb3 hHeld
            go_wp2_with fail
            exact ⟨⟨j + 1, by omega, by go_num, by rw [HLd2.out, HE.out], hkz.drew⟩, by simp [intOf]; omega⟩
          · obtain ⟨hz0, hz1⟩ := HSum2.out hx2 (by omega)
            have hy2 : 0 ≤ y := by omega
            have hz2 : ¬ z < 0 := by omega
            have hz3 : ¬ x + y < z := by omega
            have hw : IntKind.i64.wrap (x + y) = x + y := by rw [IntKind.wrap_i64]; omega
            have hkz := hk8
            have cf3 := (hF.keep hkz.drew).2.2 j hlt
            have cr3 := (hR.keep hkz.drew).2.2 j hlt
            have cs3 := (hR.keep hkz.drew).2.2 st hst
            have cb3 := (B0.kept hkz.drew).cell 0
            rw [HX.out] at cf3
            rw [HY.out] at cr3
            rw [HZ.out] at cs3
            refine wp_region_held_drew (S := fun w' => w'.cell? ⟨g, j, none⟩ = some (.int .i64 x) ∧ w'.cell? ⟨g2, j, none⟩ = some (.int .i64 y) ∧ w'.cell? ⟨g2, st, none⟩ = some (.int .i64 z) ∧ w'.cell? ⟨w2.heap.size, 0, none⟩ = some (.int .i64 st)) (by kernel_rfl) ⟨cf3, cr3, cs3, cb3⟩ (fun hHeld => ?_)
            (refine take_val (i := 0) (v := .slice (some ⟨g, 0, none⟩) 32 c3) rfl rfl (by kernel_rfl) (by kernel_rfl) (by kernel_rfl) (fun _ _ _ h => h) rfl (by intro wq hq; (try go_split_ands); go_simp; try with_reducible rfl) (hHeld) ?_; simp only [List.setIfInBounds_toArray, List.set_cons_zero, List.set_cons_succ])
            (refine take_val (i := 1) (v := .int .i64 j) rfl rfl (by kernel_rfl) (by kernel_rfl) (by kernel_rfl) (fun _ _ _ h => h) rfl (by intro wq hq; (try go_split_ands); go_simp; try with_reducible rfl) (hHeld) ?_; simp only [List.setIfInBounds_toArray, List.set_cons_zero, List.set_cons_succ])
            (refine take_val (i := 2) (v := .pointer (some ⟨g, j, none⟩)) rfl rfl (by kernel_rfl) (by kernel_rfl) (by kernel_rfl) (fun _ _ _ h => h) rfl (by intro wq hq; (try go_split_ands); go_simp; try with_reducible rfl) (hHeld) ?_; simp only [List.setIfInBounds_toArray, List.set_cons_zero, List.set_cons_succ])
            (refine take_val (i := 3) (v := .int .i64 x) rfl rfl (by kernel_rfl) (by kernel_rfl) (by kernel_rfl) (fun _ _ _ h => h) rfl (by intro wq hq; (try go_split_ands); go_simp; try with_reducible rfl) (hHeld) ?_; simp only [List.setIfInBounds_toArray, List.set_cons_zero, List.set_cons_succ])
            (refine take_val (i := 4) (v := .bool true) rfl rfl (by kernel_rfl) (by kernel_rfl) (by kernel_rfl) (fun _ _ _ h => h) rfl (by intro wq hq; (try go_split_ands); go_simp; try with_reducible rfl) (hHeld) ?_; simp only [List.setIfInBounds_toArray, List.set_cons_zero, List.set_cons_succ])
            (refine take_val (i := 5) (v := .bool true) rfl rfl (by kernel_rfl) (by kernel_rfl) (by kernel_rfl) (fun _ _ _ h => h) rfl (by intro wq hq; (try go_split_ands); go_simp; try with_reducible rfl) (hHeld) ?_; simp only [List.setIfInBounds_toArray, List.set_cons_zero, List.set_cons_succ])
            (refine take_val (i := 6) (v := .slice (some ⟨g2, 0, none⟩) 32 c5) rfl rfl (by kernel_rfl) (by kernel_rfl) (by kernel_rfl) (fun _ _ _ h => h) rfl (by intro wq hq; (try go_split_ands); go_simp; try with_reducible rfl) (hHeld) ?_; simp only [List.setIfInBounds_toArray, List.set_cons_zero, List.set_cons_succ])
            (refine take_val (i := 7) (v := .int .i64 j) rfl rfl (by kernel_rfl) (by kernel_rfl) (by kernel_rfl) (fun _ _ _ h => h) rfl (by intro wq hq; (try go_split_ands); go_simp; try with_reducible rfl) (hHeld) ?_; simp only [List.setIfInBounds_toArray, List.set_cons_zero, List.set_cons_succ])
            (refine take_val (i := 8) (v := .pointer (some ⟨g2, j, none⟩)) rfl rfl (by kernel_rfl) (by kernel_rfl) (by kernel_rfl) (fun _ _ _ h => h) rfl (by intro wq hq; (try go_split_ands); go_simp; try with_reducible rfl) (hHeld) ?_; simp only [List.setIfInBounds_toArray, List.set_cons_zero, List.set_cons_succ])
            (refine take_val (i := 9) (v := .int .i64 y) rfl rfl (by kernel_rfl) (by kernel_rfl) (by kernel_rfl) (fun _ _ _ h => h) rfl (by intro wq hq; (try go_split_ands); go_simp; try with_reducible rfl) (hHeld) ?_; simp only [List.setIfInBounds_toArray, List.set_cons_zero, List.set_cons_succ])
            (refine take_val (i := 10) (v := .bool true) rfl rfl (by kernel_rfl) (by kernel_rfl) (by kernel_rfl) (fun _ _ _ h => h) rfl (by intro wq hq; (try go_split_ands); go_simp; try with_reducible rfl) (hHeld) ?_; simp only [List.setIfInBounds_toArray, List.set_cons_zero, List.set_cons_succ])
            (refine take_val (i := 11) (v := .bool true) rfl rfl (by kernel_rfl) (by kernel_rfl) (by kernel_rfl) (fun _ _ _ h => h) rfl (by intro wq hq; (try go_split_ands); go_simp; try with_reducible rfl) (hHeld) ?_; simp only [List.setIfInBounds_toArray, List.set_cons_zero, List.set_cons_succ])
            (refine take_val (i := 12) (v := .bool true) rfl rfl (by kernel_rfl) (by kernel_rfl) (by kernel_rfl) (fun _ _ _ h => h) rfl (by intro wq hq; (try go_split_ands); go_simp; try with_reducible rfl) (hHeld) ?_; simp only [List.setIfInBounds_toArray, List.set_cons_zero, List.set_cons_succ])
            (refine take_val (i := 13) (v := .slice (some ⟨g2, 0, none⟩) 32 c5) rfl rfl (by kernel_rfl) (by kernel_rfl) (by kernel_rfl) (fun _ _ _ h => h) rfl (by intro wq hq; (try go_split_ands); go_simp; try with_reducible rfl) (hHeld) ?_; simp only [List.setIfInBounds_toArray, List.set_cons_zero, List.set_cons_succ])
            (refine take_val (i := 14) (v := .pointer (some ⟨w2.heap.size, 0, none⟩)) rfl rfl (by kernel_rfl) (by kernel_rfl) (by kernel_rfl) (fun _ _ _ h => h) rfl (by intro wq hq; (try go_split_ands); go_simp; try with_reducible rfl) (hHeld) ?_; simp only [List.setIfInBounds_toArray, List.set_cons_zero, List.set_cons_succ])
            (refine take_val (i := 15) (v := .int .i64 st) rfl rfl (by kernel_rfl) (by kernel_rfl) (by kernel_rfl) (fun _ _ _ h => h) rfl (by intro wq hq; (try go_split_ands); go_simp; try with_reducible rfl) (hHeld) ?_; simp only [List.setIfInBounds_toArray, List.set_cons_zero, List.set_cons_succ])
            (refine take_val (i := 16) (v := .pointer (some ⟨g2, st, none⟩)) rfl rfl (by kernel_rfl) (by kernel_rfl) (by kernel_rfl) (fun _ _ _ h => h) rfl (by intro wq hq; (try go_split_ands); go_simp; try with_reducible rfl) (hHeld) ?_; simp only [List.setIfInBounds_toArray, List.set_cons_zero, List.set_cons_succ])
            (refine take_val (i := 17) (v := .int .i64 z) rfl rfl (by kernel_rfl) (by kernel_rfl) (by kernel_rfl) (fun _ _ _ h => h) rfl (by intro wq hq; (try go_split_ands); go_simp; try with_reducible rfl) (hHeld) ?_; simp only [List.setIfInBounds_toArray, List.set_cons_zero, List.set_cons_succ])
            (refine take_val (i := 18) (v := .bool false) rfl rfl (by kernel_rfl) (by kernel_rfl) (by kernel_rfl) (fun _ _ _ h => h) rfl (by intro wq hq; (try go_split_ands); go_simp; try with_reducible rfl) (hHeld) ?_; simp only [List.setIfInBounds_toArray, List.set_cons_zero, List.set_cons_succ])
            (refine take_val (i := 19) (v := .bool false) rfl rfl (by kernel_rfl) (by kernel_rfl) (by kernel_rfl) (fun _ _ _ h => h) rfl (by intro wq hq; (try go_split_ands); go_simp; try with_reducible rfl) (hHeld) ?_; simp only [List.setIfInBounds_toArray, List.set_cons_zero, List.set_cons_succ])
            (refine take_val (i := 20) (v := .slice (some ⟨g, 0, none⟩) 32 c3) rfl rfl (by kernel_rfl) (by kernel_rfl) (by kernel_rfl) (fun _ _ _ h => h) rfl (by intro wq hq; (try go_split_ands); go_simp; try with_reducible rfl) (hHeld) ?_; simp only [List.setIfInBounds_toArray, List.set_cons_zero, List.set_cons_succ])
            (refine take_val (i := 21) (v := .int .i64 j) rfl rfl (by kernel_rfl) (by kernel_rfl) (by kernel_rfl) (fun _ _ _ h => h) rfl (by intro wq hq; (try go_split_ands); go_simp; try with_reducible rfl) (hHeld) ?_; simp only [List.setIfInBounds_toArray, List.set_cons_zero, List.set_cons_succ])
            (refine take_val (i := 22) (v := .pointer (some ⟨g, j, none⟩)) rfl rfl (by kernel_rfl) (by kernel_rfl) (by kernel_rfl) (fun _ _ _ h => h) rfl (by intro wq hq; (try go_split_ands); go_simp; try with_reducible rfl) (hHeld) ?_; simp only [List.setIfInBounds_toArray, List.set_cons_zero, List.set_cons_succ])
            (refine take_val (i := 23) (v := .int .i64 x) rfl rfl (by kernel_rfl) (by kernel_rfl) (by kernel_rfl) (fun _ _ _ h => h) rfl (by intro wq hq; (try go_split_ands); go_simp; try with_reducible rfl) (hHeld) ?_; simp only [List.setIfInBounds_toArray, List.set_cons_zero, List.set_cons_succ])
            (refine take_val (i := 24) (v := .slice (some ⟨g2, 0, none⟩) 32 c5) rfl rfl (by kernel_rfl) (by kernel_rfl) (by kernel_rfl) (fun _ _ _ h => h) rfl (by intro wq hq; (try go_split_ands); go_simp; try with_reducible rfl) (hHeld) ?_; simp only [List.setIfInBounds_toArray, List.set_cons_zero, List.set_cons_succ])
            (refine take_val (i := 25) (v := .int .i64 j) rfl rfl (by kernel_rfl) (by kernel_rfl) (by kernel_rfl) (fun _ _ _ h => h) rfl (by intro wq hq; (try go_split_ands); go_simp; try with_reducible rfl) (hHeld) ?_; simp only [List.setIfInBounds_toArray, List.set_cons_zero, List.set_cons_succ])
            (refine take_val (i := 26) (v := .pointer (some ⟨g2, j, none⟩)) rfl rfl (by kernel_rfl) (by kernel_rfl) (by kernel_rfl) (fun _ _ _ h => h) rfl (by intro wq hq; (try go_split_ands); go_simp; try with_reducible rfl) (hHeld) ?_; simp only [List.setIfInBounds_toArray, List.set_cons_zero, List.set_cons_succ])
            (refine take_val (i := 27) (v := .int .i64 y) rfl rfl (by kernel_rfl) (by kernel_rfl) (by kernel_rfl) (fun _ _ _ h => h) rfl (by intro wq hq; (try go_split_ands); go_simp; try with_reducible rfl) (hHeld) ?_; simp only [List.setIfInBounds_toArray, List.set_cons_zero, List.set_cons_succ])
            (refine take_val (i := 28) (v := .int .i64 (x + y)) rfl rfl (by kernel_rfl) (by kernel_rfl) (by kernel_rfl) (fun _ _ _ h => h) rfl (by intro wq hq; (try go_split_ands); go_simp; try with_reducible rfl) (hHeld) ?_; simp only [List.setIfInBounds_toArray, List.set_cons_zero, List.set_cons_succ])
            (refine take_val (i := 29) (v := .slice (some ⟨g2, 0, none⟩) 32 c5) rfl rfl (by kernel_rfl) (by kernel_rfl) (by kernel_rfl) (fun _ _ _ h => h) rfl (by intro wq hq; (try go_split_ands); go_simp; try with_reducible rfl) (hHeld) ?_; simp only [List.setIfInBounds_toArray, List.set_cons_zero, List.set_cons_succ])
            (refine take_val (i := 30) (v := .pointer (some ⟨w2.heap.size, 0, none⟩)) rfl rfl (by kernel_rfl) (by kernel_rfl) (by kernel_rfl) (fun _ _ _ h => h) rfl (by intro wq hq; (try go_split_ands); go_simp; try with_reducible rfl) (hHeld) ?_; simp only [List.setIfInBounds_toArray, List.set_cons_zero, List.set_cons_succ])
            (refine take_val (i := 31) (v := .int .i64 st) rfl rfl (by kernel_rfl) (by kernel_rfl) (by kernel_rfl) (fun _ _ _ h => h) rfl (by intro wq hq; (try go_split_ands); go_simp; try with_reducible rfl) (hHeld) ?_; simp only [List.setIfInBounds_toArray, List.set_cons_zero, List.set_cons_succ])
            (refine take_val (i := 32) (v := .pointer (some ⟨g2, st, none⟩)) rfl rfl (by kernel_rfl) (by kernel_rfl) (by kernel_rfl) (fun _ _ _ h => h) rfl (by intro wq hq; (try go_split_ands); go_simp; try with_reducible rfl) (hHeld) ?_; simp only [List.setIfInBounds_toArray, List.set_cons_zero, List.set_cons_succ])
            (refine take_val (i := 33) (v := .int .i64 z) rfl rfl (by kernel_rfl) (by kernel_rfl) (by kernel_rfl) (fun _ _ _ h => h) rfl (by intro wq hq; (try go_split_ands); go_simp; try with_reducible rfl) (hHeld) ?_; simp only [List.setIfInBounds_toArray, List.set_cons_zero, List.set_cons_succ])
            (refine take_val (i := 34) (v := .bool false) rfl rfl (by kernel_rfl) (by kernel_rfl) (by kernel_rfl) (fun _ _ _ h => h) rfl (by intro wq hq; (try go_split_ands); go_simp; try with_reducible rfl) (hHeld) ?_; simp only [List.setIfInBounds_toArray, List.set_cons_zero, List.set_cons_succ])
            (refine take_val (i := 35) (v := .bool false) rfl rfl (by kernel_rfl) (by kernel_rfl) (by kernel_rfl) (fun _ _ _ h => h) rfl (by intro wq hq; (try go_split_ands); go_simp; try with_reducible rfl) (hHeld) ?_; simp only [List.setIfInBounds_toArray, List.set_cons_zero, List.set_cons_succ])
            (refine take_val (i := 36) (v := .bool false) rfl rfl (by kernel_rfl) (by kernel_rfl) (by kernel_rfl) (fun _ _ _ h => h) rfl (by intro wq hq; (try go_split_ands); go_simp; try with_reducible rfl) (hHeld) ?_; simp only [List.setIfInBounds_toArray, List.set_cons_zero, List.set_cons_succ])
            refine wpAnyH_done (by kernel_rfl) ?_ _
            clear cf3 cr3 cs3 cb3 hHeld
            go_wp2_with fail
            exact ⟨⟨j + 1, by omega, by go_num, by rw [HLd2.out, HE.out], hkz.drew⟩, by simp [intOf]; omega⟩
        · by_cases hL : L < 0
          · have HE : Hid (L2 = x) := by show _ = _; rw [HLe.out, if_pos ⟨hx2, rfl, .inl hL⟩]
            go_wp2_with fail
            clear cf cr cs c0 hgr
            by_cases hy : y < 0
            · have hy2 : ¬ 0 ≤ y := by omega
              have hkz := hk8
              have cf3 := (hF.keep hkz.drew).2.2 j hlt
              have cr3 := (hR.keep hkz.drew).2.2 j hlt
              have cs3 := (hR.keep hkz.drew).2.2 st hst
              have cb3 := (B0.kept hkz.drew).cell 0
              rw [HX.out] at cf3
              rw [HY.out] at cr3
              rw [HZ.out] at cs3
              refine wp_region_held_drew (S := fun w' => w'.cell? ⟨g, j, none⟩ = some (.int .i64 x) ∧ w'.cell? ⟨g2, j, none⟩ = some (.int .i64 y) ∧ w'.cell? ⟨g2, st, none⟩ = some (.int .i64 z) ∧ w'.cell? ⟨w2.heap.size, 0, none⟩ = some (.int .i64 st)) (by kernel_rfl) ⟨cf3, cr3, cs3, cb3⟩ (fun hHeld => ?_)
              (refine take_val (i := 0) (v := .slice (some ⟨g, 0, none⟩) 32 c3) rfl rfl (by kernel_rfl) (by kernel_rfl) (by kernel_rfl) (fun _ _ _ h => h) rfl (by intro wq hq; (try go_split_ands); go_simp; try with_reducible rfl) (hHeld) ?_; simp only [List.setIfInBounds_toArray, List.set_cons_zero, List.set_cons_succ])
              (refine take_val (i := 1) (v := .int .i64 j) rfl rfl (by kernel_rfl) (by kernel_rfl) (by kernel_rfl) (fun _ _ _ h => h) rfl (by intro wq hq; (try go_split_ands); go_simp; try with_reducible rfl) (hHeld) ?_; simp only [List.setIfInBounds_toArray, List.set_cons_zero, List.set_cons_succ])
              (refine take_val (i := 2) (v := .pointer (some ⟨g, j, none⟩)) rfl rfl (by kernel_rfl) (by kernel_rfl) (by kernel_rfl) (fun _ _ _ h => h) rfl (by intro wq hq; (try go_split_ands); go_simp; try with_reducible rfl) (hHeld) ?_; simp only [List.setIfInBounds_toArray, List.set_cons_zero, List.set_cons_succ])
              (refine take_val (i := 3) (v := .int .i64 x) rfl rfl (by kernel_rfl) (by kernel_rfl) (by kernel_rfl) (fun _ _ _ h => h) rfl (by intro wq hq; (try go_split_ands); go_simp; try with_reducible rfl) (hHeld) ?_; simp only [List.setIfInBounds_toArray, List.set_cons_zero, List.set_cons_succ])
              (refine take_val (i := 4) (v := .bool true) rfl rfl (by kernel_rfl) (by kernel_rfl) (by kernel_rfl) (fun _ _ _ h => h) rfl (by intro wq hq; (try go_split_ands); go_simp; try with_reducible rfl) (hHeld) ?_; simp only [List.setIfInBounds_toArray, List.set_cons_zero, List.set_cons_succ])
              (refine take_val (i := 5) (v := .bool true) rfl rfl (by kernel_rfl) (by kernel_rfl) (by kernel_rfl) (fun _ _ _ h => h) rfl (by intro wq hq; (try go_split_ands); go_simp; try with_reducible rfl) (hHeld) ?_; simp only [List.setIfInBounds_toArray, List.set_cons_zero, List.set_cons_succ])
              (refine take_val (i := 6) (v := .slice (some ⟨g2, 0, none⟩) 32 c5) rfl rfl (by kernel_rfl) (by kernel_rfl) (by kernel_rfl) (fun _ _ _ h => h) rfl (by intro wq hq; (try go_split_ands); go_simp; try with_reducible rfl) (hHeld) ?_; simp only [List.setIfInBounds_toArray, List.set_cons_zero, List.set_cons_succ])
              (refine take_val (i := 7) (v := .int .i64 j) rfl rfl (by kernel_rfl) (by kernel_rfl) (by kernel_rfl) (fun _ _ _ h => h) rfl (by intro wq hq; (try go_split_ands); go_simp; try with_reducible rfl) (hHeld) ?_; simp only [List.setIfInBounds_toArray, List.set_cons_zero, List.set_cons_succ])
              (refine take_val (i := 8) (v := .pointer (some ⟨g2, j, none⟩)) rfl rfl (by kernel_rfl) (by kernel_rfl) (by kernel_rfl) (fun _ _ _ h => h) rfl (by intro wq hq; (try go_split_ands); go_simp; try with_reducible rfl) (hHeld) ?_; simp only [List.setIfInBounds_toArray, List.set_cons_zero, List.set_cons_succ])
              (refine take_val (i := 9) (v := .int .i64 y) rfl rfl (by kernel_rfl) (by kernel_rfl) (by kernel_rfl) (fun _ _ _ h => h) rfl (by intro wq hq; (try go_split_ands); go_simp; try with_reducible rfl) (hHeld) ?_; simp only [List.setIfInBounds_toArray, List.set_cons_zero, List.set_cons_succ])
              (refine take_val (i := 10) (v := .bool false) rfl rfl (by kernel_rfl) (by kernel_rfl) (by kernel_rfl) (fun _ _ _ h => h) rfl (by intro wq hq; (try go_split_ands); go_simp; try with_reducible rfl) (hHeld) ?_; simp only [List.setIfInBounds_toArray, List.set_cons_zero, List.set_cons_succ])
              (refine take_val (i := 11) (v := .bool false) rfl rfl (by kernel_rfl) (by kernel_rfl) (by kernel_rfl) (fun _ _ _ h => h) rfl (by intro wq hq; (try go_split_ands); go_simp; try with_reducible rfl) (hHeld) ?_; simp only [List.setIfInBounds_toArray, List.set_cons_zero, List.set_cons_succ])
              (refine take_val (i := 12) (v := .bool false) rfl rfl (by kernel_rfl) (by kernel_rfl) (by kernel_rfl) (fun _ _ _ h => h) rfl (by intro wq hq; (try go_split_ands); go_simp; try with_reducible rfl) (hHeld) ?_; simp only [List.setIfInBounds_toArray, List.set_cons_zero, List.set_cons_succ])
              (refine take_skip (i := 13) rfl rfl (by kernel_rfl) (by kernel_rfl) (by kernel_rfl) (fun _ _ _ h => h) rfl (hHeld) ?_; simp only [List.setIfInBounds_toArray, List.set_cons_zero, List.set_cons_succ])
              (refine take_skip (i := 14) rfl rfl (by kernel_rfl) (by kernel_rfl) (by kernel_rfl) (fun _ _ _ h => h) rfl (hHeld) ?_; simp only [List.setIfInBounds_toArray, List.set_cons_zero, List.set_cons_succ])
              (refine take_skip (i := 15) rfl rfl (by kernel_rfl) (by kernel_rfl) (by kernel_rfl) (fun _ _ _ h => h) rfl (hHeld) ?_; simp only [List.setIfInBounds_toArray, List.set_cons_zero, List.set_cons_succ])
              (refine take_skip (i := 16) rfl rfl (by kernel_rfl) (by kernel_rfl) (by kernel_rfl) (fun _ _ _ h => h) rfl (hHeld) ?_; simp only [List.setIfInBounds_toArray, List.set_cons_zero, List.set_cons_succ])
              (refine take_skip (i := 17) rfl rfl (by kernel_rfl) (by kernel_rfl) (by kernel_rfl) (fun _ _ _ h => h) rfl (hHeld) ?_; simp only [List.setIfInBounds_toArray, List.set_cons_zero, List.set_cons_succ])
              (refine take_skip (i := 18) rfl rfl (by kernel_rfl) (by kernel_rfl) (by kernel_rfl) (fun _ _ _ h => h) rfl (hHeld) ?_; simp only [List.setIfInBounds_toArray, List.set_cons_zero, List.set_cons_succ])
              (refine take_skip (i := 19) rfl rfl (by kernel_rfl) (by kernel_rfl) (by kernel_rfl) (fun _ _ _ h => h) rfl (hHeld) ?_; simp only [List.setIfInBounds_toArray, List.set_cons_zero, List.set_cons_succ])
              (refine take_skip (i := 20) rfl rfl (by kernel_rfl) (by kernel_rfl) (by kernel_rfl) (fun _ _ _ h => h) rfl (hHeld) ?_; simp only [List.setIfInBounds_toArray, List.set_cons_zero, List.set_cons_succ])
              (refine take_skip (i := 21) rfl rfl (by kernel_rfl) (by kernel_rfl) (by kernel_rfl) (fun _ _ _ h => h) rfl (hHeld) ?_; simp only [List.setIfInBounds_toArray, List.set_cons_zero, List.set_cons_succ])
              (refine take_skip (i := 22) rfl rfl (by kernel_rfl) (by kernel_rfl) (by kernel_rfl) (fun _ _ _ h => h) rfl (hHeld) ?_; simp only [List.setIfInBounds_toArray, List.set_cons_zero, List.set_cons_succ])
              (refine take_skip (i := 23) rfl rfl (by kernel_rfl) (by kernel_rfl) (by kernel_rfl) (fun _ _ _ h => h) rfl (hHeld) ?_; simp only [List.setIfInBounds_toArray, List.set_cons_zero, List.set_cons_succ])
              (refine take_skip (i := 24) rfl rfl (by kernel_rfl) (by kernel_rfl) (by kernel_rfl) (fun _ _ _ h => h) rfl (hHeld) ?_; simp only [List.setIfInBounds_toArray, List.set_cons_zero, List.set_cons_succ])
              (refine take_skip (i := 25) rfl rfl (by kernel_rfl) (by kernel_rfl) (by kernel_rfl) (fun _ _ _ h => h) rfl (hHeld) ?_; simp only [List.setIfInBounds_toArray, List.set_cons_zero, List.set_cons_succ])
              (refine take_skip (i := 26) rfl rfl (by kernel_rfl) (by kernel_rfl) (by kernel_rfl) (fun _ _ _ h => h) rfl (hHeld) ?_; simp only [List.setIfInBounds_toArray, List.set_cons_zero, List.set_cons_succ])
              (refine take_skip (i := 27) rfl rfl (by kernel_rfl) (by kernel_rfl) (by kernel_rfl) (fun _ _ _ h => h) rfl (hHeld) ?_; simp only [List.setIfInBounds_toArray, List.set_cons_zero, List.set_cons_succ])
              (refine take_skip (i := 28) rfl rfl (by kernel_rfl) (by kernel_rfl) (by kernel_rfl) (fun _ _ _ h => h) rfl (hHeld) ?_; simp only [List.setIfInBounds_toArray, List.set_cons_zero, List.set_cons_succ])
              (refine take_skip (i := 29) rfl rfl (by kernel_rfl) (by kernel_rfl) (by kernel_rfl) (fun _ _ _ h => h) rfl (hHeld) ?_; simp only [List.setIfInBounds_toArray, List.set_cons_zero, List.set_cons_succ])
              (refine take_skip (i := 30) rfl rfl (by kernel_rfl) (by kernel_rfl) (by kernel_rfl) (fun _ _ _ h => h) rfl (hHeld) ?_; simp only [List.setIfInBounds_toArray, List.set_cons_zero, List.set_cons_succ])
              (refine take_skip (i := 31) rfl rfl (by kernel_rfl) (by kernel_rfl) (by kernel_rfl) (fun _ _ _ h => h) rfl (hHeld) ?_; simp only [List.setIfInBounds_toArray, List.set_cons_zero, List.set_cons_succ])
              (refine take_skip (i := 32) rfl rfl (by kernel_rfl) (by kernel_rfl) (by kernel_rfl) (fun _ _ _ h => h) rfl (hHeld) ?_; simp only [List.setIfInBounds_toArray, List.set_cons_zero, List.set_cons_succ])
              (refine take_skip (i := 33) rfl rfl (by kernel_rfl) (by kernel_rfl) (by kernel_rfl) (fun _ _ _ h => h) rfl (hHeld) ?_; simp only [List.setIfInBounds_toArray, List.set_cons_zero, List.set_cons_succ])
              (refine take_skip (i := 34) rfl rfl (by kernel_rfl) (by kernel_rfl) (by kernel_rfl) (fun _ _ _ h => h) rfl (hHeld) ?_; simp only [List.setIfInBounds_toArray, List.set_cons_zero, List.set_cons_succ])
              (refine take_skip (i := 35) rfl rfl (by kernel_rfl) (by kernel_rfl) (by kernel_rfl) (fun _ _ _ h => h) rfl (hHeld) ?_; simp only [List.setIfInBounds_toArray, List.set_cons_zero, List.set_cons_succ])
              (refine take_val (i := 36) (v := .bool false) rfl rfl (by kernel_rfl) (by kernel_rfl) (by kernel_rfl) (fun _ _ _ h => h) rfl (by intro wq hq; (try go_split_ands); go_simp; try with_reducible rfl) (hHeld) ?_; simp only [List.setIfInBounds_toArray, List.set_cons_zero, List.set_cons_succ])
              refine wpAnyH_done (by kernel_rfl) ?_ _
              clear cf3 cr3 cs3 cb3 hHeld
              go_wp2_with fail
              exact ⟨⟨j + 1, by omega, by go_num, by rw [HLd2.out, HE.out], hkz.drew⟩, by simp [intOf]; omega⟩
            · obtain ⟨hz0, hz1⟩ := HSum2.out hx2 (by omega)
              have hy2 : 0 ≤ y := by omega
              have hz2 : ¬ z < 0 := by omega
              have hz3 : ¬ x + y < z := by omega
              have hw : IntKind.i64.wrap (x + y) = x + y := by rw [IntKind.wrap_i64]; omega
              have hkz := hk8
              have cf3 := (hF.keep hkz.drew).2.2 j hlt
              have cr3 := (hR.keep hkz.drew).2.2 j hlt
              have cs3 := (hR.keep hkz.drew).2.2 st hst
              have cb3 := (B0.kept hkz.drew).cell 0
              rw [HX.out] at cf3
              rw [HY.out] at cr3
              rw [HZ.out] at cs3
              refine wp_region_held_drew (S := fun w' => w'.cell? ⟨g, j, none⟩ = some (.int .i64 x) ∧ w'.cell? ⟨g2, j, none⟩ = some (.int .i64 y) ∧ w'.cell? ⟨g2, st, none⟩ = some (.int .i64 z) ∧ w'.cell? ⟨w2.heap.size, 0, none⟩ = some (.int .i64 st)) (by kernel_rfl) ⟨cf3, cr3, cs3, cb3⟩ (fun hHeld => ?_)
              (refine take_val (i := 0) (v := .slice (some ⟨g, 0, none⟩) 32 c3) rfl rfl (by kernel_rfl) (by kernel_rfl) (by kernel_rfl) (fun _ _ _ h => h) rfl (by intro wq hq; (try go_split_ands); go_simp; try with_reducible rfl) (hHeld) ?_; simp only [List.setIfInBounds_toArray, List.set_cons_zero, List.set_cons_succ])
              (refine take_val (i := 1) (v := .int .i64 j) rfl rfl (by kernel_rfl) (by kernel_rfl) (by kernel_rfl) (fun _ _ _ h => h) rfl (by intro wq hq; (try go_split_ands); go_simp; try with_reducible rfl) (hHeld) ?_; simp only [List.setIfInBounds_toArray, List.set_cons_zero, List.set_cons_succ])
              (refine take_val (i := 2) (v := .pointer (some ⟨g, j, none⟩)) rfl rfl (by kernel_rfl) (by kernel_rfl) (by kernel_rfl) (fun _ _ _ h => h) rfl (by intro wq hq; (try go_split_ands); go_simp; try with_reducible rfl) (hHeld) ?_; simp only [List.setIfInBounds_toArray, List.set_cons_zero, List.set_cons_succ])
              (refine take_val (i := 3) (v := .int .i64 x) rfl rfl (by kernel_rfl) (by kernel_rfl) (by kernel_rfl) (fun _ _ _ h => h) rfl (by intro wq hq; (try go_split_ands); go_simp; try with_reducible rfl) (hHeld) ?_; simp only [List.setIfInBounds_toArray, List.set_cons_zero, List.set_cons_succ])
              (refine take_val (i := 4) (v := .bool true) rfl rfl (by kernel_rfl) (by kernel_rfl) (by kernel_rfl) (fun _ _ _ h => h) rfl (by intro wq hq; (try go_split_ands); go_simp; try with_reducible rfl) (hHeld) ?_; simp only [List.setIfInBounds_toArray, List.set_cons_zero, List.set_cons_succ])
              (refine take_val (i := 5) (v := .bool true) rfl rfl (by kernel_rfl) (by kernel_rfl) (by kernel_rfl) (fun _ _ _ h => h) rfl (by intro wq hq; (try go_split_ands); go_simp; try with_reducible rfl) (hHeld) ?_; simp only [List.setIfInBounds_toArray, List.set_cons_zero, List.set_cons_succ])
              (refine take_val (i := 6) (v := .slice (some ⟨g2, 0, none⟩) 32 c5) rfl rfl (by kernel_rfl) (by kernel_rfl) (by kernel_rfl) (fun _ _ _ h => h) rfl (by intro wq hq; (try go_split_ands); go_simp; try with_reducible rfl) (hHeld) ?_; simp only [List.setIfInBounds_toArray, List.set_cons_zero, List.set_cons_succ])
              (refine take_val (i := 7) (v := .int .i64 j) rfl rfl (by kernel_rfl) (by kernel_rfl) (by kernel_rfl) (fun _ _ _ h => h) rfl (by intro wq hq; (try go_split_ands); go_simp; try with_reducible rfl) (hHeld) ?_; simp only [List.setIfInBounds_toArray, List.set_cons_zero, List.set_cons_succ])
              (refine take_val (i := 8) (v := .pointer (some ⟨g2, j, none⟩)) rfl rfl (by kernel_rfl) (by kernel_rfl) (by kernel_rfl) (fun _ _ _ h => h) rfl (by intro wq hq; (try go_split_ands); go_simp; try with_reducible rfl) (hHeld) ?_; simp only [List.setIfInBounds_toArray, List.set_cons_zero, List.set_cons_succ])
              (refine take_val (i := 9) (v := .int .i64 y) rfl rfl (by kernel_rfl) (by kernel_rfl) (by kernel_rfl) (fun _ _ _ h => h) rfl (by intro wq hq; (try go_split_ands); go_simp; try with_reducible rfl) (hHeld) ?_; simp only [List.setIfInBounds_toArray, List.set_cons_zero, List.set_cons_succ])
              (refine take_val (i := 10) (v := .bool true) rfl rfl (by kernel_rfl) (by kernel_rfl) (by kernel_rfl) (fun _ _ _ h => h) rfl (by intro wq hq; (try go_split_ands); go_simp; try with_reducible rfl) (hHeld) ?_; simp only [List.setIfInBounds_toArray, List.set_cons_zero, List.set_cons_succ])
              (refine take_val (i := 11) (v := .bool true) rfl rfl (by kernel_rfl) (by kernel_rfl) (by kernel_rfl) (fun _ _ _ h => h) rfl (by intro wq hq; (try go_split_ands); go_simp; try with_reducible rfl) (hHeld) ?_; simp only [List.setIfInBounds_toArray, List.set_cons_zero, List.set_cons_succ])
              (refine take_val (i := 12) (v := .bool true) rfl rfl (by kernel_rfl) (by kernel_rfl) (by kernel_rfl) (fun _ _ _ h => h) rfl (by intro wq hq; (try go_split_ands); go_simp; try with_reducible rfl) (hHeld) ?_; simp only [List.setIfInBounds_toArray, List.set_cons_zero, List.set_cons_succ])
              (refine take_val (i := 13) (v := .slice (some ⟨g2, 0, none⟩) 32 c5) rfl rfl (by kernel_rfl) (by kernel_rfl) (by kernel_rfl) (fun _ _ _ h => h) rfl (by intro wq hq; (try go_split_ands); go_simp; try with_reducible rfl) (hHeld) ?_; simp only [List.setIfInBounds_toArray, List.set_cons_zero, List.set_cons_succ])
              (refine take_val (i := 14) (v := .pointer (some ⟨w2.heap.size, 0, none⟩)) rfl rfl (by kernel_rfl) (by kernel_rfl) (by kernel_rfl) (fun _ _ _ h => h) rfl (by intro wq hq; (try go_split_ands); go_simp; try with_reducible rfl) (hHeld) ?_; simp only [List.setIfInBounds_toArray, List.set_cons_zero, List.set_cons_succ])
              (refine take_val (i := 15) (v := .int .i64 st) rfl rfl (by kernel_rfl) (by kernel_rfl) (by kernel_rfl) (fun _ _ _ h => h) rfl (by intro wq hq; (try go_split_ands); go_simp; try with_reducible rfl) (hHeld) ?_; simp only [List.setIfInBounds_toArray, List.set_cons_zero, List.set_cons_succ])
              (refine take_val (i := 16) (v := .pointer (some ⟨g2, st, none⟩)) rfl rfl (by kernel_rfl) (by kernel_rfl) (by kernel_rfl) (fun _ _ _ h => h) rfl (by intro wq hq; (try go_split_ands); go_simp; try with_reducible rfl) (hHeld) ?_; simp only [List.setIfInBounds_toArray, List.set_cons_zero, List.set_cons_succ])
              (refine take_val (i := 17) (v := .int .i64 z) rfl rfl (by kernel_rfl) (by kernel_rfl) (by kernel_rfl) (fun _ _ _ h => h) rfl (by intro wq hq; (try go_split_ands); go_simp; try with_reducible rfl) (hHeld) ?_; simp only [List.setIfInBounds_toArray, List.set_cons_zero, List.set_cons_succ])
              (refine take_val (i := 18) (v := .bool false) rfl rfl (by kernel_rfl) (by kernel_rfl) (by kernel_rfl) (fun _ _ _ h => h) rfl (by intro wq hq; (try go_split_ands); go_simp; try with_reducible rfl) (hHeld) ?_; simp only [List.setIfInBounds_toArray, List.set_cons_zero, List.set_cons_succ])
              (refine take_val (i := 19) (v := .bool false) rfl rfl (by kernel_rfl) (by kernel_rfl) (by kernel_rfl) (fun _ _ _ h => h) rfl (by intro wq hq; (try go_split_ands); go_simp; try with_reducible rfl) (hHeld) ?_; simp only [List.setIfInBounds_toArray, List.set_cons_zero, List.set_cons_succ])
              (refine take_val (i := 20) (v := .slice (some ⟨g, 0, none⟩) 32 c3) rfl rfl (by kernel_rfl) (by kernel_rfl) (by kernel_rfl) (fun _ _ _ h => h) rfl (by intro wq hq; (try go_split_ands); go_simp; try with_reducible rfl) (hHeld) ?_; simp only [List.setIfInBounds_toArray, List.set_cons_zero, List.set_cons_succ])
              (refine take_val (i := 21) (v := .int .i64 j) rfl rfl (by kernel_rfl) (by kernel_rfl) (by kernel_rfl) (fun _ _ _ h => h) rfl (by intro wq hq; (try go_split_ands); go_simp; try with_reducible rfl) (hHeld) ?_; simp only [List.setIfInBounds_toArray, List.set_cons_zero, List.set_cons_succ])
              (refine take_val (i := 22) (v := .pointer (some ⟨g, j, none⟩)) rfl rfl (by kernel_rfl) (by kernel_rfl) (by kernel_rfl) (fun _ _ _ h => h) rfl (by intro wq hq; (try go_split_ands); go_simp; try with_reducible rfl) (hHeld) ?_; simp only [List.setIfInBounds_toArray, List.set_cons_zero, List.set_cons_succ])
              (refine take_val (i := 23) (v := .int .i64 x) rfl rfl (by kernel_rfl) (by kernel_rfl) (by kernel_rfl) (fun _ _ _ h => h) rfl (by intro wq hq; (try go_split_ands); go_simp; try with_reducible rfl) (hHeld) ?_; simp only [List.setIfInBounds_toArray, List.set_cons_zero, List.set_cons_succ])
              (refine take_val (i := 24) (v := .slice (some ⟨g2, 0, none⟩) 32 c5) rfl rfl (by kernel_rfl) (by kernel_rfl) (by kernel_rfl) (fun _ _ _ h => h) rfl (by intro wq hq; (try go_split_ands); go_simp; try with_reducible rfl) (hHeld) ?_; simp only [List.setIfInBounds_toArray, List.set_cons_zero, List.set_cons_succ])
              (refine take_val (i := 25) (v := .int .i64 j) rfl rfl (by kernel_rfl) (by kernel_rfl) (by kernel_rfl) (fun _ _ _ h => h) rfl (by intro wq hq; (try go_split_ands); go_simp; try with_reducible rfl) (hHeld) ?_; simp only [List.setIfInBounds_toArray, List.set_cons_zero, List.set_cons_succ])
              (refine take_val (i := 26) (v := .pointer (some ⟨g2, j, none⟩)) rfl rfl (by kernel_rfl) (by kernel_rfl) (by kernel_rfl) (fun _ _ _ h => h) rfl (by intro wq hq; (try go_split_ands); go_simp; try with_reducible rfl) (hHeld) ?_; simp only [List.setIfInBounds_toArray, List.set_cons_zero, List.set_cons_succ])
              (refine take_val (i := 27) (v := .int .i64 y) rfl rfl (by kernel_rfl) (by kernel_rfl) (by kernel_rfl) (fun _ _ _ h => h) rfl (by intro wq hq; (try go_split_ands); go_simp; try with_reducible rfl) (hHeld) ?_; simp only [List.setIfInBounds_toArray, List.set_cons_zero, List.set_cons_succ])
              (refine take_val (i := 28) (v := .int .i64 (x + y)) rfl rfl (by kernel_rfl) (by kernel_rfl) (by kernel_rfl) (fun _ _ _ h => h) rfl (by intro wq hq; (try go_split_ands); go_simp; try with_reducible rfl) (hHeld) ?_; simp only [List.setIfInBounds_toArray, List.set_cons_zero, List.set_cons_succ])
              (refine take_val (i := 29) (v := .slice (some ⟨g2, 0, none⟩) 32 c5) rfl rfl (by kernel_rfl) (by kernel_rfl) (by kernel_rfl) (fun _ _ _ h => h) rfl (by intro wq hq; (try go_split_ands); go_simp; try with_reducible rfl) (hHeld) ?_; simp only [List.setIfInBounds_toArray, List.set_cons_zero, List.set_cons_succ])
              (refine take_val (i := 30) (v := .pointer (some ⟨w2.heap.size, 0, none⟩)) rfl rfl (by kernel_rfl) (by kernel_rfl) (by kernel_rfl) (fun _ _ _ h => h) rfl (by intro wq hq; (try go_split_ands); go_simp; try with_reducible rfl) (hHeld) ?_; simp only [List.setIfInBounds_toArray, List.set_cons_zero, List.set_cons_succ])
              (refine take_val (i := 31) (v := .int .i64 st) rfl rfl (by kernel_rfl) (by kernel_rfl) (by kernel_rfl) (fun _ _ _ h => h) rfl (by intro wq hq; (try go_split_ands); go_simp; try with_reducible rfl) (hHeld) ?_; simp only [List.setIfInBounds_toArray, List.set_cons_zero, List.set_cons_succ])
              (refine take_val (i := 32) (v := .pointer (some ⟨g2, st, none⟩)) rfl rfl (by kernel_rfl) (by kernel_rfl) (by kernel_rfl) (fun _ _ _ h => h) rfl (by intro wq hq; (try go_split_ands); go_simp; try with_reducible rfl) (hHeld) ?_; simp only [List.setIfInBounds_toArray, List.set_cons_zero, List.set_cons_succ])
              (refine take_val (i := 33) (v := .int .i64 z) rfl rfl (by kernel_rfl) (by kernel_rfl) (by kernel_rfl) (fun _ _ _ h => h) rfl (by intro wq hq; (try go_split_ands); go_simp; try with_reducible rfl) (hHeld) ?_; simp only [List.setIfInBounds_toArray, List.set_cons_zero, List.set_cons_succ])
              (refine take_val (i := 34) (v := .bool false) rfl rfl (by kernel_rfl) (by kernel_rfl) (by kernel_rfl) (fun _ _ _ h => h) rfl (by intro wq hq; (try go_split_ands); go_simp; try with_reducible rfl) (hHeld) ?_; simp only [List.setIfInBounds_toArray, List.set_cons_zero, List.set_cons_succ])
              (refine take_val (i := 35) (v := .bool false) rfl rfl (by kernel_rfl) (by kernel_rfl) (by kernel_rfl) (fun _ _ _ h => h) rfl (by intro wq hq; (try go_split_ands); go_simp; try with_reducible rfl) (hHeld) ?_; simp only [List.setIfInBounds_toArray, List.set_cons_zero, List.set_cons_succ])
              (refine take_val (i := 36) (v := .bool false) rfl rfl (by kernel_rfl) (by kernel_rfl) (by kernel_rfl) (fun _ _ _ h => h) rfl (by intro wq hq; (try go_split_ands); go_simp; try with_reducible rfl) (hHeld) ?_; simp only [List.setIfInBounds_toArray, List.set_cons_zero, List.set_cons_succ])
              refine wpAnyH_done (by kernel_rfl) ?_ _
              clear cf3 cr3 cs3 cb3 hHeld
              go_wp2_with fail
              exact ⟨⟨j + 1, by omega, by go_num, by rw [HLd2.out, HE.out], hkz.drew⟩, by simp [intOf]; omega⟩
          · by_cases hxL : x < L
            · have HE : Hid (L2 = x) := by show _ = _; rw [HLe.out, if_pos ⟨hx2, rfl, .inr hxL⟩]
              go_wp2_with fail
              clear cf cr cs c0 hgr
              by_cases hy : y < 0
              · have hy2 : ¬ 0 ≤ y := by omega
                have hkz := hk8
                have cf3 := (hF.keep hkz.drew).2.2 j hlt
                have cr3 := (hR.keep hkz.drew).2.2 j hlt
                have cs3 := (hR.keep hkz.drew).2.2 st hst
                have cb3 := (B0.kept hkz.drew).cell 0
                rw [HX.out] at cf3
                rw [HY.out] at cr3
                rw [HZ.out] at cs3
                refine wp_region_held_drew (S := fun w' => w'.cell? ⟨g, j, none⟩ = some (.int .i64 x) ∧ w'.cell? ⟨g2, j, none⟩ = some (.int .i64 y) ∧ w'.cell? ⟨g2, st, none⟩ = some (.int .i64 z) ∧ w'.cell? ⟨w2.heap.size, 0, none⟩ = some (.int .i64 st)) (by kernel_rfl) ⟨cf3, cr3, cs3, cb3⟩ (fun hHeld => ?_)
                (refine take_val (i := 0) (v := .slice (some ⟨g, 0, none⟩) 32 c3) rfl rfl (by kernel_rfl) (by kernel_rfl) (by kernel_rfl) (fun _ _ _ h => h) rfl (by intro wq hq; (try go_split_ands); go_simp; try with_reducible rfl) (hHeld) ?_; simp only [List.setIfInBounds_toArray, List.set_cons_zero, List.set_cons_succ])
                (refine take_val (i := 1) (v := .int .i64 j) rfl rfl (by kernel_rfl) (by kernel_rfl) (by kernel_rfl) (fun _ _ _ h => h) rfl (by intro wq hq; (try go_split_ands); go_simp; try with_reducible rfl) (hHeld) ?_; simp only [List.setIfInBounds_toArray, List.set_cons_zero, List.set_cons_succ])
                (refine take_val (i := 2) (v := .pointer (some ⟨g, j, none⟩)) rfl rfl (by kernel_rfl) (by kernel_rfl) (by kernel_rfl) (fun _ _ _ h => h) rfl (by intro wq hq; (try go_split_ands); go_simp; try with_reducible rfl) (hHeld) ?_; simp only [List.setIfInBounds_toArray, List.set_cons_zero, List.set_cons_succ])
                (refine take_val (i := 3) (v := .int .i64 x) rfl rfl (by kernel_rfl) (by kernel_rfl) (by kernel_rfl) (fun _ _ _ h => h) rfl (by intro wq hq; (try go_split_ands); go_simp; try with_reducible rfl) (hHeld) ?_; simp only [List.setIfInBounds_toArray, List.set_cons_zero, List.set_cons_succ])
                (refine take_val (i := 4) (v := .bool true) rfl rfl (by kernel_rfl) (by kernel_rfl) (by kernel_rfl) (fun _ _ _ h => h) rfl (by intro wq hq; (try go_split_ands); go_simp; try with_reducible rfl) (hHeld) ?_; simp only [List.setIfInBounds_toArray, List.set_cons_zero, List.set_cons_succ])
                (refine take_val (i := 5) (v := .bool true) rfl rfl (by kernel_rfl) (by kernel_rfl) (by kernel_rfl) (fun _ _ _ h => h) rfl (by intro wq hq; (try go_split_ands); go_simp; try with_reducible rfl) (hHeld) ?_; simp only [List.setIfInBounds_toArray, List.set_cons_zero, List.set_cons_succ])
                (refine take_val (i := 6) (v := .slice (some ⟨g2, 0, none⟩) 32 c5) rfl rfl (by kernel_rfl) (by kernel_rfl) (by kernel_rfl) (fun _ _ _ h => h) rfl (by intro wq hq; (try go_split_ands); go_simp; try with_reducible rfl) (hHeld) ?_; simp only [List.setIfInBounds_toArray, List.set_cons_zero, List.set_cons_succ])
                (refine take_val (i := 7) (v := .int .i64 j) rfl rfl (by kernel_rfl) (by kernel_rfl) (by kernel_rfl) (fun _ _ _ h => h) rfl (by intro wq hq; (try go_split_ands); go_simp; try with_reducible rfl) (hHeld) ?_; simp only [List.setIfInBounds_toArray, List.set_cons_zero, List.set_cons_succ])
                (refine take_val (i := 8) (v := .pointer (some ⟨g2, j, none⟩)) rfl rfl (by kernel_rfl) (by kernel_rfl) (by kernel_rfl) (fun _ _ _ h => h) rfl (by intro wq hq; (try go_split_ands); go_simp; try with_reducible rfl) (hHeld) ?_; simp only [List.setIfInBounds_toArray, List.set_cons_zero, List.set_cons_succ])
                (refine take_val (i := 9) (v := .int .i64 y) rfl rfl (by kernel_rfl) (by kernel_rfl) (by kernel_rfl) (fun _ _ _ h => h) rfl (by intro wq hq; (try go_split_ands); go_simp; try with_reducible rfl) (hHeld) ?_; simp only [List.setIfInBounds_toArray, List.set_cons_zero, List.set_cons_succ])
                (refine take_val (i := 10) (v := .bool false) rfl rfl (by kernel_rfl) (by kernel_rfl) (by kernel_rfl) (fun _ _ _ h => h) rfl (by intro wq hq; (try go_split_ands); go_simp; try with_reducible rfl) (hHeld) ?_; simp only [List.setIfInBounds_toArray, List.set_cons_zero, List.set_cons_succ])
                (refine take_val (i := 11) (v := .bool false) rfl rfl (by kernel_rfl) (by kernel_rfl) (by kernel_rfl) (fun _ _ _ h => h) rfl (by intro wq hq; (try go_split_ands); go_simp; try with_reducible rfl) (hHeld) ?_; simp only [List.setIfInBounds_toArray, List.set_cons_zero, List.set_cons_succ])
                (refine take_val (i := 12) (v := .bool false) rfl rfl (by kernel_rfl) (by kernel_rfl) (by kernel_rfl) (fun _ _ _ h => h) rfl (by intro wq hq; (try go_split_ands); go_simp; try with_reducible rfl) (hHeld) ?_; simp only [List.setIfInBounds_toArray, List.set_cons_zero, List.set_cons_succ])
                (refine take_skip (i := 13) rfl rfl (by kernel_rfl) (by kernel_rfl) (by kernel_rfl) (fun _ _ _ h => h) rfl (hHeld) ?_; simp only [List.setIfInBounds_toArray, List.set_cons_zero, List.set_cons_succ])
                (refine take_skip (i := 14) rfl rfl (by kernel_rfl) (by kernel_rfl) (by kernel_rfl) (fun _ _ _ h => h) rfl (hHeld) ?_; simp only [List.setIfInBounds_toArray, List.set_cons_zero, List.set_cons_succ])
                (refine take_skip (i := 15) rfl rfl (by kernel_rfl) (by kernel_rfl) (by kernel_rfl) (fun _ _ _ h => h) rfl (hHeld) ?_; simp only [List.setIfInBounds_toArray, List.set_cons_zero, List.set_cons_succ])
                (refine take_skip (i := 16) rfl rfl (by kernel_rfl) (by kernel_rfl) (by kernel_rfl) (fun _ _ _ h => h) rfl (hHeld) ?_; simp only [List.setIfInBounds_toArray, List.set_cons_zero, List.set_cons_succ])
                (refine take_skip (i := 17) rfl rfl (by kernel_rfl) (by kernel_rfl) (by kernel_rfl) (fun _ _ _ h => h) rfl (hHeld) ?_; simp only [List.setIfInBounds_toArray, List.set_cons_zero, List.set_cons_succ])
                (refine take_skip (i := 18) rfl rfl (by kernel_rfl) (by kernel_rfl) (by kernel_rfl) (fun _ _ _ h => h) rfl (hHeld) ?_; simp only [List.setIfInBounds_toArray, List.set_cons_zero, List.set_cons_succ])
                (refine take_skip (i := 19) rfl rfl (by kernel_rfl) (by kernel_rfl) (by kernel_rfl) (fun _ _ _ h => h) rfl (hHeld) ?_; simp only [List.setIfInBounds_toArray, List.set_cons_zero, List.set_cons_succ])
                (refine take_skip (i := 20) rfl rfl (by kernel_rfl) (by kernel_rfl) (by kernel_rfl) (fun _ _ _ h => h) rfl (hHeld) ?_; simp only [List.setIfInBounds_toArray, List.set_cons_zero, List.set_cons_succ])
                (refine take_skip (i := 21) rfl rfl (by kernel_rfl) (by kernel_rfl) (by kernel_rfl) (fun _ _ _ h => h) rfl (hHeld) ?_; simp only [List.setIfInBounds_toArray, List.set_cons_zero, List.set_cons_succ])
                (refine take_skip (i := 22) rfl rfl (by kernel_rfl) (by kernel_rfl) (by kernel_rfl) (fun _ _ _ h => h) rfl (hHeld) ?_; simp only [List.setIfInBounds_toArray, List.set_cons_zero, List.set_cons_succ])
                (refine take_skip (i := 23) rfl rfl (by kernel_rfl) (by kernel_rfl) (by kernel_rfl) (fun _ _ _ h => h) rfl (hHeld) ?_; simp only [List.setIfInBounds_toArray, List.set_cons_zero, List.set_cons_succ])
                (refine take_skip (i := 24) rfl rfl (by kernel_rfl) (by kernel_rfl) (by kernel_rfl) (fun _ _ _ h => h) rfl (hHeld) ?_; simp only [List.setIfInBounds_toArray, List.set_cons_zero, List.set_cons_succ])
                (refine take_skip (i := 25) rfl rfl (by kernel_rfl) (by kernel_rfl) (by kernel_rfl) (fun _ _ _ h => h) rfl (hHeld) ?_; simp only [List.setIfInBounds_toArray, List.set_cons_zero, List.set_cons_succ])
                (refine take_skip (i := 26) rfl rfl (by kernel_rfl) (by kernel_rfl) (by kernel_rfl) (fun _ _ _ h => h) rfl (hHeld) ?_; simp only [List.setIfInBounds_toArray, List.set_cons_zero, List.set_cons_succ])
                (refine take_skip (i := 27) rfl rfl (by kernel_rfl) (by kernel_rfl) (by kernel_rfl) (fun _ _ _ h => h) rfl (hHeld) ?_; simp only [List.setIfInBounds_toArray, List.set_cons_zero, List.set_cons_succ])
                (refine take_skip (i := 28) rfl rfl (by kernel_rfl) (by kernel_rfl) (by kernel_rfl) (fun _ _ _ h => h) rfl (hHeld) ?_; simp only [List.setIfInBounds_toArray, List.set_cons_zero, List.set_cons_succ])
                (refine take_skip (i := 29) rfl rfl (by kernel_rfl) (by kernel_rfl) (by kernel_rfl) (fun _ _ _ h => h) rfl (hHeld) ?_; simp only [List.setIfInBounds_toArray, List.set_cons_zero, List.set_cons_succ])
                (refine take_skip (i := 30) rfl rfl (by kernel_rfl) (by kernel_rfl) (by kernel_rfl) (fun _ _ _ h => h) rfl (hHeld) ?_; simp only [List.setIfInBounds_toArray, List.set_cons_zero, List.set_cons_succ])
                (refine take_skip (i := 31) rfl rfl (by kernel_rfl) (by kernel_rfl) (by kernel_rfl) (fun _ _ _ h => h) rfl (hHeld) ?_; simp only [List.setIfInBounds_toArray, List.set_cons_zero, List.set_cons_succ])
                (refine take_skip (i := 32) rfl rfl (by kernel_rfl) (by kernel_rfl) (by kernel_rfl) (fun _ _ _ h => h) rfl (hHeld) ?_; simp only [List.setIfInBounds_toArray, List.set_cons_zero, List.set_cons_succ])
                (refine take_skip (i := 33) rfl rfl (by kernel_rfl) (by kernel_rfl) (by kernel_rfl) (fun _ _ _ h => h) rfl (hHeld) ?_; simp only [List.setIfInBounds_toArray, List.set_cons_zero, List.set_cons_succ])
                (refine take_skip (i := 34) rfl rfl (by kernel_rfl) (by kernel_rfl) (by kernel_rfl) (fun _ _ _ h => h) rfl (hHeld) ?_; simp only [List.setIfInBounds_toArray, List.set_cons_zero, List.set_cons_succ])
                (refine take_skip (i := 35) rfl rfl (by kernel_rfl) (by kernel_rfl) (by kernel_rfl) (fun _ _ _ h => h) rfl (hHeld) ?_; simp only [List.setIfInBounds_toArray, List.set_cons_zero, List.set_cons_succ])
                (refine take_val (i := 36) (v := .bool false) rfl rfl (by kernel_rfl) (by kernel_rfl) (by kernel_rfl) (fun _ _ _ h => h) rfl (by intro wq hq; (try go_split_ands); go_simp; try with_reducible rfl) (hHeld) ?_; simp only [List.setIfInBounds_toArray, List.set_cons_zero, List.set_cons_succ])
                refine wpAnyH_done (by kernel_rfl) ?_ _
                clear cf3 cr3 cs3 cb3 hHeld
                go_wp2_with fail
                exact ⟨⟨j + 1, by omega, by go_num, by rw [HLd2.out, HE.out], hkz.drew⟩, by simp [intOf]; omega⟩
              · obtain ⟨hz0, hz1⟩ := HSum2.out hx2 (by omega)
                have hy2 : 0 ≤ y := by omega
                have hz2 : ¬ z < 0 := by omega
                have hz3 : ¬ x + y < z := by omega
                have hw : IntKind.i64.wrap (x + y) = x + y := by rw [IntKind.wrap_i64]; omega
                have hkz := hk8
                have cf3 := (hF.keep hkz.drew).2.2 j hlt
                have cr3 := (hR.keep hkz.drew).2.2 j hlt
                have cs3 := (hR.keep hkz.drew).2.2 st hst
                have cb3 := (B0.kept hkz.drew).cell 0
                rw [HX.out] at cf3
                rw [HY.out] at cr3
                rw [HZ.out] at cs3
                refine wp_region_held_drew (S := fun w' => w'.cell? ⟨g, j, none⟩ = some (.int .i64 x) ∧ w'.cell? ⟨g2, j, none⟩ = some (.int .i64 y) ∧ w'.cell? ⟨g2, st, none⟩ = some (.int .i64 z) ∧ w'.cell? ⟨w2.heap.size, 0, none⟩ = some (.int .i64 st)) (by kernel_rfl) ⟨cf3, cr3, cs3, cb3⟩ (fun hHeld => ?_)
                (refine take_val (i := 0) (v := .slice (some ⟨g, 0, none⟩) 32 c3) rfl rfl (by kernel_rfl) (by kernel_rfl) (by kernel_rfl) (fun _ _ _ h => h) rfl (by intro wq hq; (try go_split_ands); go_simp; try with_reducible rfl) (hHeld) ?_; simp only [List.setIfInBounds_toArray, List.set_cons_zero, List.set_cons_succ])
                (refine take_val (i := 1) (v := .int .i64 j) rfl rfl (by kernel_rfl) (by kernel_rfl) (by kernel_rfl) (fun _ _ _ h => h) rfl (by intro wq hq; (try go_split_ands); go_simp; try with_reducible rfl) (hHeld) ?_; simp only [List.setIfInBounds_toArray, List.set_cons_zero, List.set_cons_succ])
                (refine take_val (i := 2) (v := .pointer (some ⟨g, j, none⟩)) rfl rfl (by kernel_rfl) (by kernel_rfl) (by kernel_rfl) (fun _ _ _ h => h) rfl (by intro wq hq; (try go_split_ands); go_simp; try with_reducible rfl) (hHeld) ?_; simp only [List.setIfInBounds_toArray, List.set_cons_zero, List.set_cons_succ])
                (refine take_val (i := 3) (v := .int .i64 x) rfl rfl (by kernel_rfl) (by kernel_rfl) (by kernel_rfl) (fun _ _ _ h => h) rfl (by intro wq hq; (try go_split_ands); go_simp; try with_reducible rfl) (hHeld) ?_; simp only [List.setIfInBounds_toArray, List.set_cons_zero, List.set_cons_succ])
                (refine take_val (i := 4) (v := .bool true) rfl rfl (by kernel_rfl) (by kernel_rfl) (by kernel_rfl) (fun _ _ _ h => h) rfl (by intro wq hq; (try go_split_ands); go_simp; try with_reducible rfl) (hHeld) ?_; simp only [List.setIfInBounds_toArray, List.set_cons_zero, List.set_cons_succ])
                (refine take_val (i := 5) (v := .bool true) rfl rfl (by kernel_rfl) (by kernel_rfl) (by kernel_rfl) (fun _ _ _ h => h) rfl (by intro wq hq; (try go_split_ands); go_simp; try with_reducible rfl) (hHeld) ?_; simp only [List.setIfInBounds_toArray, List.set_cons_zero, List.set_cons_succ])
                (refine take_val (i := 6) (v := .slice (some ⟨g2, 0, none⟩) 32 c5) rfl rfl (by kernel_rfl) (by kernel_rfl) (by kernel_rfl) (fun _ _ _ h => h) rfl (by intro wq hq; (try go_split_ands); go_simp; try with_reducible rfl) (hHeld) ?_; simp only [List.setIfInBounds_toArray, List.set_cons_zero, List.set_cons_succ])
                (refine take_val (i := 7) (v := .int .i64 j) rfl rfl (by kernel_rfl) (by kernel_rfl) (by kernel_rfl) (fun _ _ _ h => h) rfl (by intro wq hq; (try go_split_ands); go_simp; try with_reducible rfl) (hHeld) ?_; simp only [List.setIfInBounds_toArray, List.set_cons_zero, List.set_cons_succ])
                (refine take_val (i := 8) (v := .pointer (some ⟨g2, j, none⟩)) rfl rfl (by kernel_rfl) (by kernel_rfl) (by kernel_rfl) (fun _ _ _ h => h) rfl (by intro wq hq; (try go_split_ands); go_simp; try with_reducible rfl) (hHeld) ?_; simp only [List.setIfInBounds_toArray, List.set_cons_zero, List.set_cons_succ])
                (refine take_val (i := 9) (v := .int .i64 y) rfl rfl (by kernel_rfl) (by kernel_rfl) (by kernel_rfl) (fun _ _ _ h => h) rfl (by intro wq hq; (try go_split_ands); go_simp; try with_reducible rfl) (hHeld) ?_; simp only [List.setIfInBounds_toArray, List.set_cons_zero, List.set_cons_succ])
                (refine take_val (i := 10) (v := .bool true) rfl rfl (by kernel_rfl) (by kernel_rfl) (by kernel_rfl) (fun _ _ _ h => h) rfl (by intro wq hq; (try go_split_ands); go_simp; try with_reducible rfl) (hHeld) ?_; simp only [List.setIfInBounds_toArray, List.set_cons_zero, List.set_cons_succ])
                (refine take_val (i := 11) (v := .bool true) rfl rfl (by kernel_rfl) (by kernel_rfl) (by kernel_rfl) (fun _ _ _ h => h) rfl (by intro wq hq; (try go_split_ands); go_simp; try with_reducible rfl) (hHeld) ?_; simp only [List.setIfInBounds_toArray, List.set_cons_zero, List.set_cons_succ])
                (refine take_val (i := 12) (v := .bool true) rfl rfl (by kernel_rfl) (by kernel_rfl) (by kernel_rfl) (fun _ _ _ h => h) rfl (by intro wq hq; (try go_split_ands); go_simp; try with_reducible rfl) (hHeld) ?_; simp only [List.setIfInBounds_toArray, List.set_cons_zero, List.set_cons_succ])
                (refine take_val (i := 13) (v := .slice (some ⟨g2, 0, none⟩) 32 c5) rfl rfl (by kernel_rfl) (by kernel_rfl) (by kernel_rfl) (fun _ _ _ h => h) rfl (by intro wq hq; (try go_split_ands); go_simp; try with_reducible rfl) (hHeld) ?_; simp only [List.setIfInBounds_toArray, List.set_cons_zero, List.set_cons_succ])
                (refine take_val (i := 14) (v := .pointer (some ⟨w2.heap.size, 0, none⟩)) rfl rfl (by kernel_rfl) (by kernel_rfl) (by kernel_rfl) (fun _ _ _ h => h) rfl (by intro wq hq; (try go_split_ands); go_simp; try with_reducible rfl) (hHeld) ?_; simp only [List.setIfInBounds_toArray, List.set_cons_zero, List.set_cons_succ])
                (refine take_val (i := 15) (v := .int .i64 st) rfl rfl (by kernel_rfl) (by kernel_rfl) (by kernel_rfl) (fun _ _ _ h => h) rfl (by intro wq hq; (try go_split_ands); go_simp; try with_reducible rfl) (hHeld) ?_; simp only [List.setIfInBounds_toArray, List.set_cons_zero, List.set_cons_succ])
                (refine take_val (i := 16) (v := .pointer (some ⟨g2, st, none⟩)) rfl rfl (by kernel_rfl) (by kernel_rfl) (by kernel_rfl) (fun _ _ _ h => h) rfl (by intro wq hq; (try go_split_ands); go_simp; try with_reducible rfl) (hHeld) ?_; simp only [List.setIfInBounds_toArray, List.set_cons_zero, List.set_cons_succ])
                (refine take_val (i := 17) (v := .int .i64 z) rfl rfl (by kernel_rfl) (by kernel_rfl) (by kernel_rfl) (fun _ _ _ h => h) rfl (by intro wq hq; (try go_split_ands); go_simp; try with_reducible rfl) (hHeld) ?_; simp only [List.setIfInBounds_toArray, List.set_cons_zero, List.set_cons_succ])
                (refine take_val (i := 18) (v := .bool false) rfl rfl (by kernel_rfl) (by kernel_rfl) (by kernel_rfl) (fun _ _ _ h => h) rfl (by intro wq hq; (try go_split_ands); go_simp; try with_reducible rfl) (hHeld) ?_; simp only [List.setIfInBounds_toArray, List.set_cons_zero, List.set_cons_succ])
                (refine take_val (i := 19) (v := .bool false) rfl rfl (by kernel_rfl) (by kernel_rfl) (by kernel_rfl) (fun _ _ _ h => h) rfl (by intro wq hq; (try go_split_ands); go_simp; try with_reducible rfl) (hHeld) ?_; simp only [List.setIfInBounds_toArray, List.set_cons_zero, List.set_cons_succ])
                (refine take_val (i := 20) (v := .slice (some ⟨g, 0, none⟩) 32 c3) rfl rfl (by kernel_rfl) (by kernel_rfl) (by kernel_rfl) (fun _ _ _ h => h) rfl (by intro wq hq; (try go_split_ands); go_simp; try with_reducible rfl) (hHeld) ?_; simp only [List.setIfInBounds_toArray, List.set_cons_zero, List.set_cons_succ])
                (refine take_val (i := 21) (v := .int .i64 j) rfl rfl (by kernel_rfl) (by kernel_rfl) (by kernel_rfl) (fun _ _ _ h => h) rfl (by intro wq hq; (try go_split_ands); go_simp; try with_reducible rfl) (hHeld) ?_; simp only [List.setIfInBounds_toArray, List.set_cons_zero, List.set_cons_succ])
                (refine take_val (i := 22) (v := .pointer (some ⟨g, j, none⟩)) rfl rfl (by kernel_rfl) (by kernel_rfl) (by kernel_rfl) (fun _ _ _ h => h) rfl (by intro wq hq; (try go_split_ands); go_simp; try with_reducible rfl) (hHeld) ?_; simp only [List.setIfInBounds_toArray, List.set_cons_zero, List.set_cons_succ])
                (refine take_val (i := 23) (v := .int .i64 x) rfl rfl (by kernel_rfl) (by kernel_rfl) (by kernel_rfl) (fun _ _ _ h => h) rfl (by intro wq hq; (try go_split_ands); go_simp; try with_reducible rfl) (hHeld) ?_; simp only [List.setIfInBounds_toArray, List.set_cons_zero, List.set_cons_succ])
                (refine take_val (i := 24) (v := .slice (some ⟨g2, 0, none⟩) 32 c5) rfl rfl (by kernel_rfl) (by kernel_rfl) (by kernel_rfl) (fun _ _ _ h => h) rfl (by intro wq hq; (try go_split_ands); go_simp; try with_reducible rfl) (hHeld) ?_; simp only [List.setIfInBounds_toArray, List.set_cons_zero, List.set_cons_succ])
                (refine take_val (i := 25) (v := .int .i64 j) rfl rfl (by kernel_rfl) (by kernel_rfl) (by kernel_rfl) (fun _ _ _ h => h) rfl (by intro wq hq; (try go_split_ands); go_simp; try with_reducible rfl) (hHeld) ?_; simp only [List.setIfInBounds_toArray, List.set_cons_zero, List.set_cons_succ])
                (refine take_val (i := 26) (v := .pointer (some ⟨g2, j, none⟩)) rfl rfl (by kernel_rfl) (by kernel_rfl) (by kernel_rfl) (fun _ _ _ h => h) rfl (by intro wq hq; (try go_split_ands); go_simp; try with_reducible rfl) (hHeld) ?_; simp only [List.setIfInBounds_toArray, List.set_cons_zero, List.set_cons_succ])
                (refine take_val (i := 27) (v := .int .i64 y) rfl rfl (by kernel_rfl) (by kernel_rfl) (by kernel_rfl) (fun _ _ _ h => h) rfl (by intro wq hq; (try go_split_ands); go_simp; try with_reducible rfl) (hHeld) ?_; simp only [List.setIfInBounds_toArray, List.set_cons_zero, List.set_cons_succ])
                (refine take_val (i := 28) (v := .int .i64 (x + y)) rfl rfl (by kernel_rfl) (by kernel_rfl) (by kernel_rfl) (fun _ _ _ h => h) rfl (by intro wq hq; (try go_split_ands); go_simp; try with_reducible rfl) (hHeld) ?_; simp only [List.setIfInBounds_toArray, List.set_cons_zero, List.set_cons_succ])
                (refine take_val (i := 29) (v := .slice (some ⟨g2, 0, none⟩) 32 c5) rfl rfl (by kernel_rfl) (by kernel_rfl) (by kernel_rfl) (fun _ _ _ h => h) rfl (by intro wq hq; (try go_split_ands); go_simp; try with_reducible rfl) (hHeld) ?_; simp only [List.setIfInBounds_toArray, List.set_cons_zero, List.set_cons_succ])
                (refine take_val (i := 30) (v := .pointer (some ⟨w2.heap.size, 0, none⟩)) rfl rfl (by kernel_rfl) (by kernel_rfl) (by kernel_rfl) (fun _ _ _ h => h) rfl (by intro wq hq; (try go_split_ands); go_simp; try with_reducible rfl) (hHeld) ?_; simp only [List.setIfInBounds_toArray, List.set_cons_zero, List.set_cons_succ])
                (refine take_val (i := 31) (v := .int .i64 st) rfl rfl (by kernel_rfl) (by kernel_rfl) (by kernel_rfl) (fun _ _ _ h => h) rfl (by intro wq hq; (try go_split_ands); go_simp; try with_reducible rfl) (hHeld) ?_; simp only [List.setIfInBounds_toArray, List.set_cons_zero, List.set_cons_succ])
                (refine take_val (i := 32) (v := .pointer (some ⟨g2, st, none⟩)) rfl rfl (by kernel_rfl) (by kernel_rfl) (by kernel_rfl) (fun _ _ _ h => h) rfl (by intro wq hq; (try go_split_ands); go_simp; try with_reducible rfl) (hHeld) ?_; simp only [List.setIfInBounds_toArray, List.set_cons_zero, List.set_cons_succ])
                (refine take_val (i := 33) (v := .int .i64 z) rfl rfl (by kernel_rfl) (by kernel_rfl) (by kernel_rfl) (fun _ _ _ h => h) rfl (by intro wq hq; (try go_split_ands); go_simp; try with_reducible rfl) (hHeld) ?_; simp only [List.setIfInBounds_toArray, List.set_cons_zero, List.set_cons_succ])
                (refine take_val (i := 34) (v := .bool false) rfl rfl (by kernel_rfl) (by kernel_rfl) (by kernel_rfl) (fun _ _ _ h => h) rfl (by intro wq hq; (try go_split_ands); go_simp; try with_reducible rfl) (hHeld) ?_; simp only [List.setIfInBounds_toArray, List.set_cons_zero, List.set_cons_succ])
                (refine take_val (i := 35) (v := .bool false) rfl rfl (by kernel_rfl) (by kernel_rfl) (by kernel_rfl) (fun _ _ _ h => h) rfl (by intro wq hq; (try go_split_ands); go_simp; try with_reducible rfl) (hHeld) ?_; simp only [List.setIfInBounds_toArray, List.set_cons_zero, List.set_cons_succ])
                (refine take_val (i := 36) (v := .bool false) rfl rfl (by kernel_rfl) (by kernel_rfl) (by kernel_rfl) (fun _ _ _ h => h) rfl (by intro wq hq; (try go_split_ands); go_simp; try with_reducible rfl) (hHeld) ?_; simp only [List.setIfInBounds_toArray, List.set_cons_zero, List.set_cons_succ])
                refine wpAnyH_done (by kernel_rfl) ?_ _
                clear cf3 cr3 cs3 cb3 hHeld
                go_wp2_with fail
                exact ⟨⟨j + 1, by omega, by go_num, by rw [HLd2.out, HE.out], hkz.drew⟩, by simp [intOf]; omega⟩
            · have HE : Hid (L2 = L) := by show _ = _; rw [HLe.out, if_neg (by rintro ⟨_, _, h | h⟩ <;> contradiction)]
              go_wp2_with fail
              clear cf cr cs c0 hgr
              by_cases hy : y < 0
              · have hy2 : ¬ 0 ≤ y := by omega
                have hkz := hk8
                have cf3 := (hF.keep hkz.drew).2.2 j hlt
                have cr3 := (hR.keep hkz.drew).2.2 j hlt
                have cs3 := (hR.keep hkz.drew).2.2 st hst
                have cb3 := (B0.kept hkz.drew).cell 0
                rw [HX.out] at cf3
                rw [HY.out] at cr3
                rw [HZ.out] at cs3
                refine wp_region_held_drew (S := fun w' => w'.cell? ⟨g, j, none⟩ = some (.int .i64 x) ∧ w'.cell? ⟨g2, j, none⟩ = some (.int .i64 y) ∧ w'.cell? ⟨g2, st, none⟩ = some (.int .i64 z) ∧ w'.cell? ⟨w2.heap.size, 0, none⟩ = some (.int .i64 st)) (by kernel_rfl) ⟨cf3, cr3, cs3, cb3⟩ (fun hHeld => ?_)
                (refine take_val (i := 0) (v := .slice (some ⟨g, 0, none⟩) 32 c3) rfl rfl (by kernel_rfl) (by kernel_rfl) (by kernel_rfl) (fun _ _ _ h => h) rfl (by intro wq hq; (try go_split_ands); go_simp; try with_reducible rfl) (hHeld) ?_; simp only [List.setIfInBounds_toArray, List.set_cons_zero, List.set_cons_succ])
                (refine take_val (i := 1) (v := .int .i64 j) rfl rfl (by kernel_rfl) (by kernel_rfl) (by kernel_rfl) (fun _ _ _ h => h) rfl (by intro wq hq; (try go_split_ands); go_simp; try with_reducible rfl) (hHeld) ?_; simp only [List.setIfInBounds_toArray, List.set_cons_zero, List.set_cons_succ])
                (refine take_val (i := 2) (v := .pointer (some ⟨g, j, none⟩)) rfl rfl (by kernel_rfl) (by kernel_rfl) (by kernel_rfl) (fun _ _ _ h => h) rfl (by intro wq hq; (try go_split_ands); go_simp; try with_reducible rfl) (hHeld) ?_; simp only [List.setIfInBounds_toArray, List.set_cons_zero, List.set_cons_succ])
                (refine take_val (i := 3) (v := .int .i64 x) rfl rfl (by kernel_rfl) (by kernel_rfl) (by kernel_rfl) (fun _ _ _ h => h) rfl (by intro wq hq; (try go_split_ands); go_simp; try with_reducible rfl) (hHeld) ?_; simp only [List.setIfInBounds_toArray, List.set_cons_zero, List.set_cons_succ])
                (refine take_val (i := 4) (v := .bool true) rfl rfl (by kernel_rfl) (by kernel_rfl) (by kernel_rfl) (fun _ _ _ h => h) rfl (by intro wq hq; (try go_split_ands); go_simp; try with_reducible rfl) (hHeld) ?_; simp only [List.setIfInBounds_toArray, List.set_cons_zero, List.set_cons_succ])
                (refine take_val (i := 5) (v := .bool true) rfl rfl (by kernel_rfl) (by kernel_rfl) (by kernel_rfl) (fun _ _ _ h => h) rfl (by intro wq hq; (try go_split_ands); go_simp; try with_reducible rfl) (hHeld) ?_; simp only [List.setIfInBounds_toArray, List.set_cons_zero, List.set_cons_succ])
                (refine take_val (i := 6) (v := .slice (some ⟨g2, 0, none⟩) 32 c5) rfl rfl (by kernel_rfl) (by kernel_rfl) (by kernel_rfl) (fun _ _ _ h => h) rfl (by intro wq hq; (try go_split_ands); go_simp; try with_reducible rfl) (hHeld) ?_; simp only [List.setIfInBounds_toArray, List.set_cons_zero, List.set_cons_succ])
                (refine take_val (i := 7) (v := .int .i64 j) rfl rfl (by kernel_rfl) (by kernel_rfl) (by kernel_rfl) (fun _ _ _ h => h) rfl (by intro wq hq; (try go_split_ands); go_simp; try with_reducible rfl) (hHeld) ?_; simp only [List.setIfInBounds_toArray, List.set_cons_zero, List.set_cons_succ])
                (refine take_val (i := 8) (v := .pointer (some ⟨g2, j, none⟩)) rfl rfl (by kernel_rfl) (by kernel_rfl) (by kernel_rfl) (fun _ _ _ h => h) rfl (by intro wq hq; (try go_split_ands); go_simp; try with_reducible rfl) (hHeld) ?_; simp only [List.setIfInBounds_toArray, List.set_cons_zero, List.set_cons_succ])
                (refine take_val (i := 9) (v := .int .i64 y) rfl rfl (by kernel_rfl) (by kernel_rfl) (by kernel_rfl) (fun _ _ _ h => h) rfl (by intro wq hq; (try go_split_ands); go_simp; try with_reducible rfl) (hHeld) ?_; simp only [List.setIfInBounds_toArray, List.set_cons_zero, List.set_cons_succ])
                (refine take_val (i := 10) (v := .bool false) rfl rfl (by kernel_rfl) (by kernel_rfl) (by kernel_rfl) (fun _ _ _ h => h) rfl (by intro wq hq; (try go_split_ands); go_simp; try with_reducible rfl) (hHeld) ?_; simp only [List.setIfInBounds_toArray, List.set_cons_zero, List.set_cons_succ])
                (refine take_val (i := 11) (v := .bool false) rfl rfl (by kernel_rfl) (by kernel_rfl) (by kernel_rfl) (fun _ _ _ h => h) rfl (by intro wq hq; (try go_split_ands); go_simp; try with_reducible rfl) (hHeld) ?_; simp only [List.setIfInBounds_toArray, List.set_cons_zero, List.set_cons_succ])
                (refine take_val (i := 12) (v := .bool false) rfl rfl (by kernel_rfl) (by kernel_rfl) (by kernel_rfl) (fun _ _ _ h => h) rfl (by intro wq hq; (try go_split_ands); go_simp; try with_reducible rfl) (hHeld) ?_; simp only [List.setIfInBounds_toArray, List.set_cons_zero, List.set_cons_succ])
                (refine take_skip (i := 13) rfl rfl (by kernel_rfl) (by kernel_rfl) (by kernel_rfl) (fun _ _ _ h => h) rfl (hHeld) ?_; simp only [List.setIfInBounds_toArray, List.set_cons_zero, List.set_cons_succ])
                (refine take_skip (i := 14) rfl rfl (by kernel_rfl) (by kernel_rfl) (by kernel_rfl) (fun _ _ _ h => h) rfl (hHeld) ?_; simp only [List.setIfInBounds_toArray, List.set_cons_zero, List.set_cons_succ])
                (refine take_skip (i := 15) rfl rfl (by kernel_rfl) (by kernel_rfl) (by kernel_rfl) (fun _ _ _ h => h) rfl (hHeld) ?_; simp only [List.setIfInBounds_toArray, List.set_cons_zero, List.set_cons_succ])
                (refine take_skip (i := 16) rfl rfl (by kernel_rfl) (by kernel_rfl) (by kernel_rfl) (fun _ _ _ h => h) rfl (hHeld) ?_; simp only [List.setIfInBounds_toArray, List.set_cons_zero, List.set_cons_succ])
                (refine take_skip (i := 17) rfl rfl (by kernel_rfl) (by kernel_rfl) (by kernel_rfl) (fun _ _ _ h => h) rfl (hHeld) ?_; simp only [List.setIfInBounds_toArray, List.set_cons_zero, List.set_cons_succ])
                (refine take_skip (i := 18) rfl rfl (by kernel_rfl) (by kernel_rfl) (by kernel_rfl) (fun _ _ _ h => h) rfl (hHeld) ?_; simp only [List.setIfInBounds_toArray, List.set_cons_zero, List.set_cons_succ])
                (refine take_skip (i := 19) rfl rfl (by kernel_rfl) (by kernel_rfl) (by kernel_rfl) (fun _ _ _ h => h) rfl (hHeld) ?_; simp only [List.setIfInBounds_toArray, List.set_cons_zero, List.set_cons_succ])
                (refine take_skip (i := 20) rfl rfl (by kernel_rfl) (by kernel_rfl) (by kernel_rfl) (fun _ _ _ h => h) rfl (hHeld) ?_; simp only [List.setIfInBounds_toArray, List.set_cons_zero, List.set_cons_succ])
                (refine take_skip (i := 21) rfl rfl (by kernel_rfl) (by kernel_rfl) (by kernel_rfl) (fun _ _ _ h => h) rfl (hHeld) ?_; simp only [List.setIfInBounds_toArray, List.set_cons_zero, List.set_cons_succ])
                (refine take_skip (i := 22) rfl rfl (by kernel_rfl) (by kernel_rfl) (by kernel_rfl) (fun _ _ _ h => h) rfl (hHeld) ?_; simp only [List.setIfInBounds_toArray, List.set_cons_zero, List.set_cons_succ])
                (refine take_skip (i := 23) rfl rfl (by kernel_rfl) (by kernel_rfl) (by kernel_rfl) (fun _ _ _ h => h) rfl (hHeld) ?_; simp only [List.setIfInBounds_toArray, List.set_cons_zero, List.set_cons_succ])
                (refine take_skip (i := 24) rfl rfl (by kernel_rfl) (by kernel_rfl) (by kernel_rfl) (fun _ _ _ h => h) rfl (hHeld) ?_; simp only [List.setIfInBounds_toArray, List.set_cons_zero, List.set_cons_succ])
                (refine take_skip (i := 25) rfl rfl (by kernel_rfl) (by kernel_rfl) (by kernel_rfl) (fun _ _ _ h => h) rfl (hHeld) ?_; simp only [List.setIfInBounds_toArray, List.set_cons_zero, List.set_cons_succ])
                (refine take_skip (i := 26) rfl rfl (by kernel_rfl) (by kernel_rfl) (by kernel_rfl) (fun _ _ _ h => h) rfl (hHeld) ?_; simp only [List.setIfInBounds_toArray, List.set_cons_zero, List.set_cons_succ])
                (refine take_skip (i := 27) rfl rfl (by kernel_rfl) (by kernel_rfl) (by kernel_rfl) (fun _ _ _ h => h) rfl (hHeld) ?_; simp only [List.setIfInBounds_toArray, List.set_cons_zero, List.set_cons_succ])
                (refine take_skip (i := 28) rfl rfl (by kernel_rfl) (by kernel_rfl) (by kernel_rfl) (fun _ _ _ h => h) rfl (hHeld) ?_; simp only [List.setIfInBounds_toArray, List.set_cons_zero, List.set_cons_succ])
                (refine take_skip (i := 29) rfl rfl (by kernel_rfl) (by kernel_rfl) (by kernel_rfl) (fun _ _ _ h => h) rfl (hHeld) ?_; simp only [List.setIfInBounds_toArray, List.set_cons_zero, List.set_cons_succ])
                (refine take_skip (i := 30) rfl rfl (by kernel_rfl) (by kernel_rfl) (by kernel_rfl) (fun _ _ _ h => h) rfl (hHeld) ?_; simp only [List.setIfInBounds_toArray, List.set_cons_zero, List.set_cons_succ])
                (refine take_skip (i := 31) rfl rfl (by kernel_rfl) (by kernel_rfl) (by kernel_rfl) (fun _ _ _ h => h) rfl (hHeld) ?_; simp only [List.setIfInBounds_toArray, List.set_cons_zero, List.set_cons_succ])
                (refine take_skip (i := 32) rfl rfl (by kernel_rfl) (by kernel_rfl) (by kernel_rfl) (fun _ _ _ h => h) rfl (hHeld) ?_; simp only [List.setIfInBounds_toArray, List.set_cons_zero, List.set_cons_succ])
                (refine take_skip (i := 33) rfl rfl (by kernel_rfl) (by kernel_rfl) (by kernel_rfl) (fun _ _ _ h => h) rfl (hHeld) ?_; simp only [List.setIfInBounds_toArray, List.set_cons_zero, List.set_cons_succ])
                (refine take_skip (i := 34) rfl rfl (by kernel_rfl) (by kernel_rfl) (by kernel_rfl) (fun _ _ _ h => h) rfl (hHeld) ?_; simp only [List.setIfInBounds_toArray, List.set_cons_zero, List.set_cons_succ])
                (refine take_skip (i := 35) rfl rfl (by kernel_rfl) (by kernel_rfl) (by kernel_rfl) (fun _ _ _ h => h) rfl (hHeld) ?_; simp only [List.setIfInBounds_toArray, List.set_cons_zero, List.set_cons_succ])
                (refine take_val (i := 36) (v := .bool false) rfl rfl (by kernel_rfl) (by kernel_rfl) (by kernel_rfl) (fun _ _ _ h => h) rfl (by intro wq hq; (try go_split_ands); go_simp; try with_reducible rfl) (hHeld) ?_; simp only [List.setIfInBounds_toArray, List.set_cons_zero, List.set_cons_succ])
                refine wpAnyH_done (by kernel_rfl) ?_ _
                clear cf3 cr3 cs3 cb3 hHeld
                go_wp2_with fail
                exact ⟨⟨j + 1, by omega, by go_num, by rw [HLd2.out, HE.out], hkz.drew⟩, by simp [intOf]; omega⟩
              · obtain ⟨hz0, hz1⟩ := HSum2.out hx2 (by omega)
                have hy2 : 0 ≤ y := by omega
                have hz2 : ¬ z < 0 := by omega
                have hz3 : ¬ x + y < z := by omega
                have hw : IntKind.i64.wrap (x + y) = x + y := by rw [IntKind.wrap_i64]; omega
                have hkz := hk8
                have cf3 := (hF.keep hkz.drew).2.2 j hlt
                have cr3 := (hR.keep hkz.drew).2.2 j hlt
                have cs3 := (hR.keep hkz.drew).2.2 st hst
                have cb3 := (B0.kept hkz.drew).cell 0
                rw [HX.out] at cf3
                rw [HY.out] at cr3
                rw [HZ.out] at cs3
                refine wp_region_held_drew (S := fun w' => w'.cell? ⟨g, j, none⟩ = some (.int .i64 x) ∧ w'.cell? ⟨g2, j, none⟩ = some (.int .i64 y) ∧ w'.cell? ⟨g2, st, none⟩ = some (.int .i64 z) ∧ w'.cell? ⟨w2.heap.size, 0, none⟩ = some (.int .i64 st)) (by kernel_rfl) ⟨cf3, cr3, cs3, cb3⟩ (fun hHeld => ?_)
                (refine take_val (i := 0) (v := .slice (some ⟨g, 0, none⟩) 32 c3) rfl rfl (by kernel_rfl) (by kernel_rfl) (by kernel_rfl) (fun _ _ _ h => h) rfl (by intro wq hq; (try go_split_ands); go_simp; try with_reducible rfl) (hHeld) ?_; simp only [List.setIfInBounds_toArray, List.set_cons_zero, List.set_cons_succ])
                (refine take_val (i := 1) (v := .int .i64 j) rfl rfl (by kernel_rfl) (by kernel_rfl) (by kernel_rfl) (fun _ _ _ h => h) rfl (by intro wq hq; (try go_split_ands); go_simp; try with_reducible rfl) (hHeld) ?_; simp only [List.setIfInBounds_toArray, List.set_cons_zero, List.set_cons_succ])
                (refine take_val (i := 2) (v := .pointer (some ⟨g, j, none⟩)) rfl rfl (by kernel_rfl) (by kernel_rfl) (by kernel_rfl) (fun _ _ _ h => h) rfl (by intro wq hq; (try go_split_ands); go_simp; try with_reducible rfl) (hHeld) ?_; simp only [List.setIfInBounds_toArray, List.set_cons_zero, List.set_cons_succ])
                (refine take_val (i := 3) (v := .int .i64 x) rfl rfl (by kernel_rfl) (by kernel_rfl) (by kernel_rfl) (fun _ _ _ h => h) rfl (by intro wq hq; (try go_split_ands); go_simp; try with_reducible rfl) (hHeld) ?_; simp only [List.setIfInBounds_toArray, List.set_cons_zero, List.set_cons_succ])
                (refine take_val (i := 4) (v := .bool true) rfl rfl (by kernel_rfl) (by kernel_rfl) (by kernel_rfl) (fun _ _ _ h => h) rfl (by intro wq hq; (try go_split_ands); go_simp; try with_reducible rfl) (hHeld) ?_; simp only [List.setIfInBounds_toArray, List.set_cons_zero, List.set_cons_succ])
                (refine take_val (i := 5) (v := .bool true) rfl rfl (by kernel_rfl) (by kernel_rfl) (by kernel_rfl) (fun _ _ _ h => h) rfl (by intro wq hq; (try go_split_ands); go_simp; try with_reducible rfl) (hHeld) ?_; simp only [List.setIfInBounds_toArray, List.set_cons_zero, List.set_cons_succ])
                (refine take_val (i := 6) (v := .slice (some ⟨g2, 0, none⟩) 32 c5) rfl rfl (by kernel_rfl) (by kernel_rfl) (by kernel_rfl) (fun _ _ _ h => h) rfl (by intro wq hq; (try go_split_ands); go_simp; try with_reducible rfl) (hHeld) ?_; simp only [List.setIfInBounds_toArray, List.set_cons_zero, List.set_cons_succ])
                (refine take_val (i := 7) (v := .int .i64 j) rfl rfl (by kernel_rfl) (by kernel_rfl) (by kernel_rfl) (fun _ _ _ h => h) rfl (by intro wq hq; (try go_split_ands); go_simp; try with_reducible rfl) (hHeld) ?_; simp only [List.setIfInBounds_toArray, List.set_cons_zero, List.set_cons_succ])
                (refine take_val (i := 8) (v := .pointer (some ⟨g2, j, none⟩)) rfl rfl (by kernel_rfl) (by kernel_rfl) (by kernel_rfl) (fun _ _ _ h => h) rfl (by intro wq hq; (try go_split_ands); go_simp; try with_reducible rfl) (hHeld) ?_; simp only [List.setIfInBounds_toArray, List.set_cons_zero, List.set_cons_succ])
                (refine take_val (i := 9) (v := .int .i64 y) rfl rfl (by kernel_rfl) (by kernel_rfl) (by kernel_rfl) (fun _ _ _ h => h) rfl (by intro wq hq; (try go_split_ands); go_simp; try with_reducible rfl) (hHeld) ?_; simp only [List.setIfInBounds_toArray, List.set_cons_zero, List.set_cons_succ])
                (refine take_val (i := 10) (v := .bool true) rfl rfl (by kernel_rfl) (by kernel_rfl) (by kernel_rfl) (fun _ _ _ h => h) rfl (by intro wq hq; (try go_split_ands); go_simp; try with_reducible rfl) (hHeld) ?_; simp only [List.setIfInBounds_toArray, List.set_cons_zero, List.set_cons_succ])
                (refine take_val (i := 11) (v := .bool true) rfl rfl (by kernel_rfl) (by kernel_rfl) (by kernel_rfl) (fun _ _ _ h => h) rfl (by intro wq hq; (try go_split_ands); go_simp; try with_reducible rfl) (hHeld) ?_; simp only [List.setIfInBounds_toArray, List.set_cons_zero, List.set_cons_succ])
                (refine take_val (i := 12) (v := .bool true) rfl rfl (by kernel_rfl) (by kernel_rfl) (by kernel_rfl) (fun _ _ _ h => h) rfl (by intro wq hq; (try go_split_ands); go_simp; try with_reducible rfl) (hHeld) ?_; simp only [List.setIfInBounds_toArray, List.set_cons_zero, List.set_cons_succ])
                (refine take_val (i := 13) (v := .slice (some ⟨g2, 0, none⟩) 32 c5) rfl rfl (by kernel_rfl) (by kernel_rfl) (by kernel_rfl) (fun _ _ _ h => h) rfl (by intro wq hq; (try go_split_ands); go_simp; try with_reducible rfl) (hHeld) ?_; simp only [List.setIfInBounds_toArray, List.set_cons_zero, List.set_cons_succ])
                (refine take_val (i := 14) (v := .pointer (some ⟨w2.heap.size, 0, none⟩)) rfl rfl (by kernel_rfl) (by kernel_rfl) (by kernel_rfl) (fun _ _ _ h => h) rfl (by intro wq hq; (try go_split_ands); go_simp; try with_reducible rfl) (hHeld) ?_; simp only [List.setIfInBounds_toArray, List.set_cons_zero, List.set_cons_succ])
                (refine take_val (i := 15) (v := .int .i64 st) rfl rfl (by kernel_rfl) (by kernel_rfl) (by kernel_rfl) (fun _ _ _ h => h) rfl (by intro wq hq; (try go_split_ands); go_simp; try with_reducible rfl) (hHeld) ?_; simp only [List.setIfInBounds_toArray, List.set_cons_zero, List.set_cons_succ])
                (refine take_val (i := 16) (v := .pointer (some ⟨g2, st, none⟩)) rfl rfl (by kernel_rfl) (by kernel_rfl) (by kernel_rfl) (fun _ _ _ h => h) rfl (by intro wq hq; (try go_split_ands); go_simp; try with_reducible rfl) (hHeld) ?_; simp only [List.setIfInBounds_toArray, List.set_cons_zero, List.set_cons_succ])
                (refine take_val (i := 17) (v := .int .i64 z) rfl rfl (by kernel_rfl) (by kernel_rfl) (by kernel_rfl) (fun _ _ _ h => h) rfl (by intro wq hq; (try go_split_ands); go_simp; try with_reducible rfl) (hHeld) ?_; simp only [List.setIfInBounds_toArray, List.set_cons_zero, List.set_cons_succ])
                (refine take_val (i := 18) (v := .bool false) rfl rfl (by kernel_rfl) (by kernel_rfl) (by kernel_rfl) (fun _ _ _ h => h) rfl (by intro wq hq; (try go_split_ands); go_simp; try with_reducible rfl) (hHeld) ?_; simp only [List.setIfInBounds_toArray, List.set_cons_zero, List.set_cons_succ])
                (refine take_val (i := 19) (v := .bool false) rfl rfl (by kernel_rfl) (by kernel_rfl) (by kernel_rfl) (fun _ _ _ h => h) rfl (by intro wq hq; (try go_split_ands); go_simp; try with_reducible rfl) (hHeld) ?_; simp only [List.setIfInBounds_toArray, List.set_cons_zero, List.set_cons_succ])
                (refine take_val (i := 20) (v := .slice (some ⟨g, 0, none⟩) 32 c3) rfl rfl (by kernel_rfl) (by kernel_rfl) (by kernel_rfl) (fun _ _ _ h => h) rfl (by intro wq hq; (try go_split_ands); go_simp; try with_reducible rfl) (hHeld) ?_; simp only [List.setIfInBounds_toArray, List.set_cons_zero, List.set_cons_succ])
                (refine take_val (i := 21) (v := .int .i64 j) rfl rfl (by kernel_rfl) (by kernel_rfl) (by kernel_rfl) (fun _ _ _ h => h) rfl (by intro wq hq; (try go_split_ands); go_simp; try with_reducible rfl) (hHeld) ?_; simp only [List.setIfInBounds_toArray, List.set_cons_zero, List.set_cons_succ])
                (refine take_val (i := 22) (v := .pointer (some ⟨g, j, none⟩)) rfl rfl (by kernel_rfl) (by kernel_rfl) (by kernel_rfl) (fun _ _ _ h => h) rfl (by intro wq hq; (try go_split_ands); go_simp; try with_reducible rfl) (hHeld) ?_; simp only [List.setIfInBounds_toArray, List.set_cons_zero, List.set_cons_succ])
                (refine take_val (i := 23) (v := .int .i64 x) rfl rfl (by kernel_rfl) (by kernel_rfl) (by kernel_rfl) (fun _ _ _ h => h) rfl (by intro wq hq; (try go_split_ands); go_simp; try with_reducible rfl) (hHeld) ?_; simp only [List.setIfInBounds_toArray, List.set_cons_zero, List.set_cons_succ])
                (refine take_val (i := 24) (v := .slice (some ⟨g2, 0, none⟩) 32 c5) rfl rfl (by kernel_rfl) (by kernel_rfl) (by kernel_rfl) (fun _ _ _ h => h) rfl (by intro wq hq; (try go_split_ands); go_simp; try with_reducible rfl) (hHeld) ?_; simp only [List.setIfInBounds_toArray, List.set_cons_zero, List.set_cons_succ])
                (refine take_val (i := 25) (v := .int .i64 j) rfl rfl (by kernel_rfl) (by kernel_rfl) (by kernel_rfl) (fun _ _ _ h => h) rfl (by intro wq hq; (try go_split_ands); go_simp; try with_reducible rfl) (hHeld) ?_; simp only [List.setIfInBounds_toArray, List.set_cons_zero, List.set_cons_succ])
                (refine take_val (i := 26) (v := .pointer (some ⟨g2, j, none⟩)) rfl rfl (by kernel_rfl) (by kernel_rfl) (by kernel_rfl) (fun _ _ _ h => h) rfl (by intro wq hq; (try go_split_ands); go_simp; try with_reducible rfl) (hHeld) ?_; simp only [List.setIfInBounds_toArray, List.set_cons_zero, List.set_cons_succ])
                (refine take_val (i := 27) (v := .int .i64 y) rfl rfl (by kernel_rfl) (by kernel_rfl) (by kernel_rfl) (fun _ _ _ h => h) rfl (by intro wq hq; (try go_split_ands); go_simp; try with_reducible rfl) (hHeld) ?_; simp only [List.setIfInBounds_toArray, List.set_cons_zero, List.set_cons_succ])
                (refine take_val (i := 28) (v := .int .i64 (x + y)) rfl rfl (by kernel_rfl) (by kernel_rfl) (by kernel_rfl) (fun _ _ _ h => h) rfl (by intro wq hq; (try go_split_ands); go_simp; try with_reducible rfl) (hHeld) ?_; simp only [List.setIfInBounds_toArray, List.set_cons_zero, List.set_cons_succ])
                (refine take_val (i := 29) (v := .slice (some ⟨g2, 0, none⟩) 32 c5) rfl rfl (by kernel_rfl) (by kernel_rfl) (by kernel_rfl) (fun _ _ _ h => h) rfl (by intro wq hq; (try go_split_ands); go_simp; try with_reducible rfl) (hHeld) ?_; simp only [List.setIfInBounds_toArray, List.set_cons_zero, List.set_cons_succ])
                (refine take_val (i := 30) (v := .pointer (some ⟨w2.heap.size, 0, none⟩)) rfl rfl (by kernel_rfl) (by kernel_rfl) (by kernel_rfl) (fun _ _ _ h => h) rfl (by intro wq hq; (try go_split_ands); go_simp; try with_reducible rfl) (hHeld) ?_; simp only [List.setIfInBounds_toArray, List.set_cons_zero, List.set_cons_succ])
                (refine take_val (i := 31) (v := .int .i64 st) rfl rfl (by kernel_rfl) (by kernel_rfl) (by kernel_rfl) (fun _ _ _ h => h) rfl (by intro wq hq; (try go_split_ands); go_simp; try with_reducible rfl) (hHeld) ?_; simp only [List.setIfInBounds_toArray, List.set_cons_zero, List.set_cons_succ])
                (refine take_val (i := 32) (v := .pointer (some ⟨g2, st, none⟩)) rfl rfl (by kernel_rfl) (by kernel_rfl) (by kernel_rfl) (fun _ _ _ h => h) rfl (by intro wq hq; (try go_split_ands); go_simp; try with_reducible rfl) (hHeld) ?_; simp only [List.setIfInBounds_toArray, List.set_cons_zero, List.set_cons_succ])
                (refine take_val (i := 33) (v := .int .i64 z) rfl rfl (by kernel_rfl) (by kernel_rfl) (by kernel_rfl) (fun _ _ _ h => h) rfl (by intro wq hq; (try go_split_ands); go_simp; try with_reducible rfl) (hHeld) ?_; simp only [List.setIfInBounds_toArray, List.set_cons_zero, List.set_cons_succ])
                (refine take_val (i := 34) (v := .bool false) rfl rfl (by kernel_rfl) (by kernel_rfl) (by kernel_rfl) (fun _ _ _ h => h) rfl (by intro wq hq; (try go_split_ands); go_simp; try with_reducible rfl) (hHeld) ?_; simp only [List.setIfInBounds_toArray, List.set_cons_zero, List.set_cons_succ])
                (refine take_val (i := 35) (v := .bool false) rfl rfl (by kernel_rfl) (by kernel_rfl) (by kernel_rfl) (fun _ _ _ h => h) rfl (by intro wq hq; (try go_split_ands); go_simp; try with_reducible rfl) (hHeld) ?_; simp only [List.setIfInBounds_toArray, List.set_cons_zero, List.set_cons_succ])
                (refine take_val (i := 36) (v := .bool false) rfl rfl (by kernel_rfl) (by kernel_rfl) (by kernel_rfl) (fun _ _ _ h => h) rfl (by intro wq hq; (try go_split_ands); go_simp; try with_reducible rfl) (hHeld) ?_; simp only [List.setIfInBounds_toArray, List.set_cons_zero, List.set_cons_succ])
                refine wpAnyH_done (by kernel_rfl) ?_ _
                clear cf3 cr3 cs3 cb3 hHeld
                go_wp2_with fail
                exact ⟨⟨j + 1, by omega, by go_num, by rw [HLd2.out, HE.out], hkz.drew⟩, by simp [intOf]; omega⟩
    · obtain rfl : j = 32 := by omega
      have cs := (hR.keep hkp).2.2 st hst
      have cfs := (hF.keep hkp).2.2 st hst
      rw [HZ0.out] at cfs
      rw [HEnd.out]
      go_wp2_with fail
      go_ret
      exact ⟨rfl, hk0.trans hkp⟩

end Go.Proofs.Ytjmpfemlihjibaa
