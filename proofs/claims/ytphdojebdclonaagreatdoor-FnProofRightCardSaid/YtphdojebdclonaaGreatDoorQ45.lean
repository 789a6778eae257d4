/- Joined texts. No condition. -/
import Derived.Test.YtphdojebdclonaaGreatDoorQ22
import Derived.Test.YtphdojebdclonaaGreatDoorQ6
import Derived.Test.YtphdojebdclonaaGreatDoorQ12
import Derived.Test.YtphdojebdclonaaGreatDoorQ8
import Derived.Test.YtphdojebdclonaaGreatDoorQ14
/- Walks: the reference's plans as they run. No condition. -/
namespace Go.Proofs.YtphdojebdclonaaGreatDoor
set_option linter.unusedSimpArgs false
set_option linter.unusedVariables false
open Go.RowKit

set_option maxHeartbeats 2000000 in
set_option maxRecDepth 100000 in
theorem c_sPlanRun (v : Value) (t : Sp.Task) (s : Int) (A2 : Option Addr) (n2 c2 : Nat) (l : List Int) (w : World) (h : TaskV w v t) (hP : Ints w A2 n2 l) : Calls Tryz.prog 92 #[v, .int .i64 s, .slice A2 n2 c2] w (RetK (.int .i64 (Sp.planRun t s l)) w) := by
  obtain ⟨A, n, c, A', n', c', rfl⟩ := h.form
  have hk0 := (Kept.refl w).alloc (.cells #[.int .i64 t.start, .slice A n c, .slice A' n' c'] 26)
  have B0 := Blk.new w 26 #[.int .i64 t.start, .slice A n c, .slice A' n' c']
  have hT := h.keep hk0
  go_enter Tryz.func92, Tryz.ntmps92
  go_wp2_with fail
  refine (c_sTaskValid _ t _ hT).mono ?_; rintro e w2 ⟨rfl, hk2⟩
  replace hk0 := hk0.trans hk2
  replace B0 := B0.kept hk2
  replace hT := hT.keep hk2
  clear hk2
  have c0 := B0.cell
  cases ht : Sp.taskOk t
  · have HE : Hid (Sp.planRun t s l = -1) := by show _ = _; unfold Sp.planRun; rw [ht]; simp
    clear ht
    go_wp2_with fail
    go_ret
    exact ⟨ret_int HE.out.symm, hk0⟩
  have HK := Lib.hid ht
  cases hq : Sp.stOk s
  · have HE : Hid (Sp.planRun t s l = -1) := by show _ = _; unfold Sp.planRun; rw [hq]; simp
    have HQ := Lib.hid hq
    clear ht hq
    go_wp2_with (first | (go_at_call 35; refine (c_l1In_st s _).mono ?_; rintro e w3 ⟨rfl, rfl⟩; rw [HQ.out]))
    go_ret
    exact ⟨ret_int HE.out.symm, hk0⟩
  have HQ := Lib.hid hq
  have HLn := Lib.hid hP.len
  by_cases h40 : 40 < n2
  · have HE : Hid (Sp.planRun t s l = -1) := by show _ = _; unfold Sp.planRun; rw [if_neg]; rw [HLn.out]; omega
    have h41 : (40 : Int) < (n2 : Int) := by omega
    clear ht hq
    go_wp2_with (first | (go_at_call 35; refine (c_l1In_st s _).mono ?_; rintro e w3 ⟨rfl, rfl⟩; rw [HQ.out]))
    go_ret
    exact ⟨ret_int HE.out.symm, hk0⟩
  have HE : Hid (Sp.planRun t s l = Sp.goOn t s.toNat l) := by show _ = _; unfold Sp.planRun; rw [if_pos ⟨ht, hq, by rw [HLn.out]; omega⟩]
  have h41 : ¬ (40 : Int) < (n2 : Int) := by omega
  have hq2 := hq
  unfold Sp.stOk at hq2
  simp only [decide_eq_true_eq] at hq2
  obtain ⟨s0, rfl⟩ := Int.eq_ofNat_of_zero_le hq2.1
  have hs0 : s0 < 32 := by omega
  have HLd := Lib.hid hT.deeds.len
  have hn6 : n' ≤ 6 := by have := Sp.taskOk_len ht; rw [HLd.out] at this; exact this
  clear ht hq hq2
  go_wp2_with (first | (go_at_call 35; refine (c_l1In_st (s0 : Int) _).mono ?_; rintro e w3 ⟨rfl, rfl⟩; rw [HQ.out]))
  rw [Int.toNat_natCast] at HE
  clear c0
  go_loopw [7, 1] (fun i v wr => ∃ k u : Nat, k ≤ n2 ∧ i = .int .i64 k ∧ v = .int .i64 u ∧ u < 32 ∧ Hid (Sp.goOn t s0 (l.take k) = (u : Int)) ∧ Kept w2 wr) (fun i _ _ => n2 - (intOf i).toNat)
  case atStart => exact ⟨0, s0, by omega, rfl, rfl, hs0, by show Sp.goOn t s0 [] = _; rfl, Kept.refl _⟩
  case round =>
    obtain ⟨k, u, hk, rfl, rfl, hu, HG, hkp⟩ := hrel
    by_cases hlt : k < n2
    · obtain ⟨b, off, rfl, hb, hc, hi⟩ := ((hP.keep hk0).keep hkp.drew).at hlt
      have HN := Lib.hid (goOn_next (t := t) (s := s0) (i := k) (u := u) (by rw [HLn.out]; exact hlt) HG.out)
      have HBad := Lib.hid (@goOn_bad t s0 l (k + 1))
      obtain ⟨q, Hq⟩ : ∃ q, Hid (l.getD k default = q) := ⟨_, rfl⟩
      rw [Hq.out] at hc HN hi
      unfold Sp.inI at hi
      have hw1 : IntKind.i64.wrap ((n' : Int) - 1) = (n' : Int) - 1 := by rw [IntKind.wrap_i64]; omega
      have ce := (B0.kept hkp.drew).cell 2
      have hkn2 : ¬ (n2 : Int) ≤ (k : Int) := by omega
      go_wp2_with fail
      refine wp_region_held_drew (S := fun w' => w'.cell? ⟨b, off + k, none⟩ = some (.int .i64 q) ∧ w'.cell? ⟨w.heap.size, 2, none⟩ = some (.slice A' n' c')) (by kernel_rfl) ⟨hc, ce⟩ (fun hHeld => ?_)
      (refine take_val (i := 0) (v := .slice (some ⟨b, off, none⟩) n2 c2) rfl rfl (by kernel_rfl) (by kernel_rfl) (by kernel_rfl) (fun _ _ _ h => h) rfl (by intro wq hq; (try go_split_ands); go_simp; try with_reducible rfl) (hHeld) ?_; try simp only [List.setIfInBounds_toArray, List.set_cons_zero, List.set_cons_succ])
      (refine take_val (i := 1) (v := .int .i64 k) rfl rfl (by kernel_rfl) (by kernel_rfl) (by kernel_rfl) (fun _ _ _ h => h) rfl (by intro wq hq; (try go_split_ands); go_simp; try with_reducible rfl) (hHeld) ?_; try simp only [List.setIfInBounds_toArray, List.set_cons_zero, List.set_cons_succ])
      (refine take_val (i := 2) (v := .pointer (some ⟨b, off + k, none⟩)) rfl rfl (by kernel_rfl) (by kernel_rfl) (by kernel_rfl) (fun _ _ _ h => h) rfl (by intro wq hq; (try go_split_ands); go_simp; try with_reducible rfl) (hHeld) ?_; try simp only [List.setIfInBounds_toArray, List.set_cons_zero, List.set_cons_succ])
      (refine take_val (i := 3) (v := .int .i64 q) rfl rfl (by kernel_rfl) (by kernel_rfl) (by kernel_rfl) (fun _ _ _ h => h) rfl (by intro wq hq; (try go_split_ands); go_simp; try with_reducible rfl) (hHeld) ?_; try simp only [List.setIfInBounds_toArray, List.set_cons_zero, List.set_cons_succ])
      (refine take_val (i := 4) (v := .pointer (some ⟨w.heap.size, 2, none⟩)) rfl rfl (by kernel_rfl) (by kernel_rfl) (by kernel_rfl) (fun _ _ _ h => h) rfl (by intro wq hq; (try go_split_ands); go_simp; try with_reducible rfl) (hHeld) ?_; try simp only [List.setIfInBounds_toArray, List.set_cons_zero, List.set_cons_succ])
      (refine take_val (i := 5) (v := .slice A' n' c') rfl rfl (by kernel_rfl) (by kernel_rfl) (by kernel_rfl) (fun _ _ _ h => h) rfl (by intro wq hq; (try go_split_ands); go_simp; try with_reducible rfl) (hHeld) ?_; try simp only [List.setIfInBounds_toArray, List.set_cons_zero, List.set_cons_succ])
      (refine take_val (i := 6) (v := .int .i64 n') rfl rfl (by kernel_rfl) (by kernel_rfl) (by kernel_rfl) (fun _ _ _ h => h) rfl (by intro wq hq; (try go_split_ands); go_simp; try with_reducible rfl) (hHeld) ?_; try simp only [List.setIfInBounds_toArray, List.set_cons_zero, List.set_cons_succ])
      (refine take_val (i := 7) (v := .int .i64 ((n' : Int) - 1)) rfl rfl (by kernel_rfl) (by kernel_rfl) (by kernel_rfl) (fun _ _ _ h => h) rfl (by intro wq hq; (try go_split_ands); go_simp; try with_reducible rfl) (hHeld) ?_; try simp only [List.setIfInBounds_toArray, List.set_cons_zero, List.set_cons_succ])
      (refine wpAnyH_ready (rs := [8]) (by kernel_rfl) (by simp) ?_; refine AllReadyH.cons rfl (fun K hK => ?_) AllReadyH.nil; go_simp)
      refine (c_l1In q 0 ((n' : Int) - 1) _).mono ?_; rintro e w4 ⟨rfl, rfl⟩
      (refine hK.out _ _ (hHeld) (fun _ => ?_); clear hK K; try simp only [Act.put, List.setIfInBounds_toArray, List.set_cons_zero, List.set_cons_succ])
      by_cases hqn : ¬ (0 ≤ q ∧ q ≤ (n' : Int) - 1)
      · have HX : Hid (Sp.goOn t s0 l = -1) := HBad.out (by rw [HN.out, if_neg (by rw [HLd.out]; omega)]; omega)
        rw [decide_eq_false hqn]
        (refine take_val (i := 9) (v := .bool true) rfl rfl (by kernel_rfl) (by kernel_rfl) (by kernel_rfl) (fun _ _ _ h => h) rfl (by intro wq hq; (try go_split_ands); go_simp; try with_reducible rfl) (hHeld) ?_; try simp only [List.setIfInBounds_toArray, List.set_cons_zero, List.set_cons_succ])
        refine wpAnyH_done (by kernel_rfl) ?_ _
        clear HN HBad hHeld hc ce
        go_wp2_with fail
        go_ret
        exact ⟨ret_int (by rw [HE.out, HX.out]), hk0.trans hkp.drew⟩
      · replace hqn := Classical.not_not.1 hqn
        rw [decide_eq_true hqn]
        (refine take_val (i := 9) (v := .bool false) rfl rfl (by kernel_rfl) (by kernel_rfl) (by kernel_rfl) (fun _ _ _ h => h) rfl (by intro wq hq; (try go_split_ands); go_simp; try with_reducible rfl) (hHeld) ?_; try simp only [List.setIfInBounds_toArray, List.set_cons_zero, List.set_cons_succ])
        refine wpAnyH_done (by kernel_rfl) ?_ _
        obtain ⟨q, rfl⟩ := Int.eq_ofNat_of_zero_le hqn.1
        rw [Int.toNat_natCast, HLd.out] at HN
        have hqn3 : q < n' := by omega
        have hkl : q < t.deeds.length := by rw [HLd.out]; exact hqn3
        have hqn2 : ¬ (n' : Int) ≤ (q : Int) := by omega
        clear hHeld hc ce hqn
        go_wp2_with fail
        have hkz := hkp.drew.drew
        obtain ⟨_, _, e1, _, hc, _⟩ := ((hP.keep hk0).keep hkz).at hlt
        simp only [Option.some.injEq, Addr.mk.injEq, and_true] at e1
        obtain ⟨rfl, rfl⟩ := e1
        rw [Hq.out] at hc
        have ce := (B0.kept hkz).cell 2
        obtain ⟨b2, off2, rfl, hb2, hd⟩ := (hT.keep hkz).deeds.at hqn3
        have HDo := Lib.hid (Sp.taskOk_deed HK.out hkl)
        have hbd := stepI_bd (d := t.deeds.getD q default) hu HDo.out
        generalize t.deeds.getD q default = d at *
        obtain ⟨A5, n5, c5, hc0, hc1, hc2, hc3, hdv⟩ := hd.v
        have HDv := Lib.hid hdv
        clear hdv hd
        refine wp_region_held_drew (S := fun w' => w'.cell? ⟨b, off + k, none⟩ = some (.int .i64 q) ∧ w'.cell? ⟨w.heap.size, 2, none⟩ = some (.slice (some ⟨b2, off2, none⟩) n' c') ∧ w'.cell? ⟨b2, off2 + q * 4, none⟩ = some (.slice A5 n5 c5) ∧ w'.cell? ⟨b2, off2 + q * 4 + 1, none⟩ = some (.int .i64 d.on) ∧ w'.cell? ⟨b2, off2 + q * 4 + 2, none⟩ = some (.int .i64 d.off) ∧ w'.cell? ⟨b2, off2 + q * 4 + 3, none⟩ = some (.int .i64 d.flip)) (by kernel_rfl) ⟨hc, ce, hc0, hc1, hc2, hc3⟩ (fun hHeld => ?_)
        (refine take_val (i := 0) (v := .pointer (some ⟨w.heap.size, 2, none⟩)) rfl rfl (by kernel_rfl) (by kernel_rfl) (by kernel_rfl) (fun _ _ _ h => h) rfl (by intro wq hq; (try go_split_ands); go_simp; try with_reducible rfl) (hHeld) ?_; try simp only [List.setIfInBounds_toArray, List.set_cons_zero, List.set_cons_succ])
        (refine take_val (i := 1) (v := .slice (some ⟨b2, off2, none⟩) n' c') rfl rfl (by kernel_rfl) (by kernel_rfl) (by kernel_rfl) (fun _ _ _ h => h) rfl (by intro wq hq; (try go_split_ands); go_simp; try with_reducible rfl) (hHeld) ?_; try simp only [List.setIfInBounds_toArray, List.set_cons_zero, List.set_cons_succ])
        (refine take_val (i := 2) (v := .slice (some ⟨b, off, none⟩) n2 c2) rfl rfl (by kernel_rfl) (by kernel_rfl) (by kernel_rfl) (fun _ _ _ h => h) rfl (by intro wq hq; (try go_split_ands); go_simp; try with_reducible rfl) (hHeld) ?_; try simp only [List.setIfInBounds_toArray, List.set_cons_zero, List.set_cons_succ])
        (refine take_val (i := 3) (v := .int .i64 k) rfl rfl (by kernel_rfl) (by kernel_rfl) (by kernel_rfl) (fun _ _ _ h => h) rfl (by intro wq hq; (try go_split_ands); go_simp; try with_reducible rfl) (hHeld) ?_; try simp only [List.setIfInBounds_toArray, List.set_cons_zero, List.set_cons_succ])
        (refine take_val (i := 4) (v := .pointer (some ⟨b, off + k, none⟩)) rfl rfl (by kernel_rfl) (by kernel_rfl) (by kernel_rfl) (fun _ _ _ h => h) rfl (by intro wq hq; (try go_split_ands); go_simp; try with_reducible rfl) (hHeld) ?_; try simp only [List.setIfInBounds_toArray, List.set_cons_zero, List.set_cons_succ])
        (refine take_val (i := 5) (v := .int .i64 q) rfl rfl (by kernel_rfl) (by kernel_rfl) (by kernel_rfl) (fun _ _ _ h => h) rfl (by intro wq hq; (try go_split_ands); go_simp; try with_reducible rfl) (hHeld) ?_; try simp only [List.setIfInBounds_toArray, List.set_cons_zero, List.set_cons_succ])
        (refine take_val (i := 6) (v := .pointer (some ⟨b2, off2 + q * 4, none⟩)) rfl rfl (by kernel_rfl) (by kernel_rfl) (by kernel_rfl) (fun _ _ _ h => h) rfl (by intro wq hq; (try go_split_ands); go_simp; try with_reducible rfl) (hHeld) ?_; try simp only [List.setIfInBounds_toArray, List.set_cons_zero, List.set_cons_succ])
        (refine take_val (i := 7) (v := .agg #[.slice A5 n5 c5, .int .i64 d.on, .int .i64 d.off, .int .i64 d.flip]) rfl rfl (by kernel_rfl) (by kernel_rfl) (by kernel_rfl) (fun _ _ _ h => h) rfl (by intro wq hq; (try go_split_ands); go_simp; try with_reducible rfl) (hHeld) ?_; try simp only [List.setIfInBounds_toArray, List.set_cons_zero, List.set_cons_succ])
        (refine take_val (i := 8) (v := .int .i64 u) rfl rfl (by kernel_rfl) (by kernel_rfl) (by kernel_rfl) (fun _ _ _ h => h) rfl (by intro wq hq; (try go_split_ands); go_simp; try with_reducible rfl) (hHeld) ?_; try simp only [List.setIfInBounds_toArray, List.set_cons_zero, List.set_cons_succ])
        (refine wpAnyH_ready (rs := [9]) (by kernel_rfl) (by simp) ?_; refine AllReadyH.cons rfl (fun K hK => ?_) AllReadyH.nil; go_simp)
        refine (c_l6Do _ d (u : Int) _ HDv.out HDo.out (by omega) (by omega)).mono ?_; rintro e w7 ⟨rfl, hk7⟩
        rw [Int.toNat_natCast]
        have hkq := hkz.trans hk7
        have hHc0 := hc0
        have hHc1 := hc1
        have hHc2 := hc2
        have hHc3 := hc3
        clear hc ce hc0 hc1 hc2 hc3 hHeld
        obtain ⟨_, _, e1, _, hc, _⟩ := ((hP.keep hk0).keep hkq).at hlt
        simp only [Option.some.injEq, Addr.mk.injEq, and_true] at e1
        obtain ⟨rfl, rfl⟩ := e1
        rw [Hq.out] at hc
        obtain ⟨y, HY⟩ : ∃ y, Hid (Sp.stepI d u = y) := ⟨_, rfl⟩
        rw [HY.out] at hbd HN ⊢
        obtain ⟨hx0, hx1, hx2, hx3, hx4, hx5⟩ : w7.cell? ⟨b, off + k, none⟩ = some (.int .i64 q) ∧ w7.cell? ⟨w.heap.size, 2, none⟩ = some (.slice (some ⟨b2, off2, none⟩) n' c') ∧ w7.cell? ⟨b2, off2 + q * 4, none⟩ = some (.slice A5 n5 c5) ∧ w7.cell? ⟨b2, off2 + q * 4 + 1, none⟩ = some (.int .i64 d.on) ∧ w7.cell? ⟨b2, off2 + q * 4 + 2, none⟩ = some (.int .i64 d.off) ∧ w7.cell? ⟨b2, off2 + q * 4 + 3, none⟩ = some (.int .i64 d.flip) := by
          have hlt2 : b2 < wr.drew.drew.heap.size := hb2
          have k0 := hk7.cell (b := b2) (o := off2 + q * 4) hlt2
          have k1 := hk7.cell (b := b2) (o := off2 + q * 4 + 1) hlt2
          have k2 := hk7.cell (b := b2) (o := off2 + q * 4 + 2) hlt2
          have k3 := hk7.cell (b := b2) (o := off2 + q * 4 + 3) hlt2
          exact ⟨hc, (B0.kept hkq).cell 2, k0.trans hHc0, k1.trans hHc1, k2.trans hHc2, k3.trans hHc3⟩
        (refine hK.out _ _ (⟨hx0, hx1, hx2, hx3, hx4, hx5⟩) (fun _ => ?_); clear hK K; try simp only [Act.put, List.setIfInBounds_toArray, List.set_cons_zero, List.set_cons_succ])
        (refine take_val (i := 10) (v := .int .i64 y) rfl rfl (by kernel_rfl) (by kernel_rfl) (by kernel_rfl) (fun _ _ _ h => h) rfl (by intro wq hq; (try go_split_ands); go_simp; try with_reducible rfl) (⟨hx0, hx1, hx2, hx3, hx4, hx5⟩) ?_; try simp only [List.setIfInBounds_toArray, List.set_cons_zero, List.set_cons_succ])
        refine wpAnyH_done (by kernel_rfl) ?_ _
        clear hx0 hx1 hx2 hx3 hx4 hx5 hc
        by_cases hy : y < 0
        · have HX : Hid (Sp.goOn t s0 l = -1) := HBad.out (by rw [HN.out, if_neg (by omega)]; omega)
          clear HN HBad
          go_wp2_with fail
          go_ret
          exact ⟨ret_int (by rw [HE.out, HX.out]), hk0.trans hkq⟩
        · obtain ⟨u2, rfl⟩ := Int.eq_ofNat_of_zero_le (show 0 ≤ y by omega)
          have HX : Hid (Sp.goOn t s0 (l.take (k + 1)) = (u2 : Int)) := by show _ = _; rw [HN.out, if_pos ⟨by omega, by omega, by omega⟩]
          clear HN HBad
          go_wp2_with fail
          exact ⟨⟨k + 1, u2, by omega, by go_num, rfl, by omega, HX, hkq⟩, by simp [intOf]; omega⟩
    · obtain rfl : k = n2 := by omega
      have HX : Hid (Sp.goOn t s0 l = (u : Int)) := by show _ = _; rw [← HG.out, List.take_of_length_le (by rw [HLn.out]; omega)]
      go_wp2_with fail
      go_ret
      exact ⟨ret_int (by rw [HE.out, HX.out]), hk0.trans hkp⟩

end Go.Proofs.YtphdojebdclonaaGreatDoor
/- Walks: the reference's PlanOk, DeedDo, DeedsMay. No condition. -/
namespace Go.Proofs.YtphdojebdclonaaGreatDoor
set_option linter.unusedSimpArgs false
set_option linter.unusedVariables false
open Go.RowKit

theorem c_sPlanOk (v : Value) (t : Sp.Task) (A2 : Option Addr) (n2 c2 : Nat) (l : List Int) (w : World) (h : TaskV w v t) (hP : Ints w A2 n2 l) : Calls Tryz.prog 53 #[v, .slice A2 n2 c2] w (RetK (.bool (Sp.planOk t l)) w) := by
  obtain ⟨A, n, c, A', n', c', rfl⟩ := h.form
  have hk0 := (Kept.refl w).alloc (.cells #[.int .i64 t.start, .slice A n c, .slice A' n' c'] 26)
  have B0 := Blk.new w 26 #[.int .i64 t.start, .slice A n c, .slice A' n' c']
  have hT := h.keep hk0
  have c0 := B0.cell
  go_enter Tryz.func53, Tryz.ntmps53
  go_wp2_with fail
  refine (c_sPlanRun _ t t.start A2 n2 c2 l _ hT (hP.keep hk0)).mono ?_; rintro e w2 ⟨rfl, hk2⟩
  replace hk0 := hk0.trans hk2
  replace B0 := B0.kept hk2
  replace hT := hT.keep hk2
  clear hk2 c0
  have c0 := B0.cell
  have hb := planRun_bd t t.start l
  have HO : Hid (Sp.planOk t l = (decide (0 ≤ Sp.planRun t t.start l) && Sp.run t.goal (Sp.planRun t t.start l).toNat)) := rfl
  have HKx : Hid (0 ≤ Sp.planRun t t.start l → Sp.codeOk t.goal = true) := fun h0 => by
    unfold Sp.planRun at h0
    split at h0
    · rename_i hc; exact Sp.taskOk_goal hc.1
    · omega
  generalize Sp.planRun t t.start l = x at *
  by_cases hx : 0 ≤ x
  · obtain ⟨x, rfl⟩ := Int.eq_ofNat_of_zero_le hx
    rw [Int.toNat_natCast, decide_eq_true hx, Bool.true_and] at HO
    have HG := Lib.hid (HKx.out hx)
    go_wp2_with fail
    refine (c_l5Run _ _ _ _ (x : Int) _ hT.goal HG.out (by omega) (by omega)).mono ?_; rintro e w3 ⟨rfl, hk3⟩
    rw [Int.toNat_natCast]
    go_wp2_with fail
    go_ret
    exact ⟨ret_bool (by rw [HO.out]), hk0.trans hk3⟩
  · rw [decide_eq_false hx, Bool.false_and] at HO
    have hx2 : ¬ 0 ≤ x := hx
    go_wp2_with fail
    go_ret
    exact ⟨ret_bool (by rw [HO.out]), hk0⟩

/-- what a deed does at any number -/
def Sp.stepAt (d : Sp.Deed) (s : Int) : Int := if Sp.stOk s = true then Sp.stepI d s.toNat else -1
theorem stepAt_bd {d : Sp.Deed} (h : Sp.deedOk d = true) (s : Int) : -1 ≤ Sp.stepAt d s ∧ Sp.stepAt d s ≤ 31 := by
  unfold Sp.stepAt
  split
  · rename_i hq
    unfold Sp.stOk at hq
    simp only [decide_eq_true_eq] at hq
    exact stepI_bd (by omega) h
  · omega

































/-- the deeds that may be done: their numbers, in a row of its own -/
def MayQ (w : World) (t : Sp.Task) (v : Value) (w' : World) : Prop := ∃ (A : Option Addr) (m c : Nat) (l : List Int), v = .slice A m c ∧ w'.ownsRow w.heap.size 3 1 (.slice A m c) m (l.map (Value.int .i64)) ∧ (∀ x ∈ l, 0 ≤ x ∧ x < t.deeds.length) ∧ m ≤ 6 ∧ (0 < m → Sp.taskOk t = true)




















































































end Go.Proofs.YtphdojebdclonaaGreatDoor
