/- Walks: the draws of a task and a set of facts (FnShadowSteps, FnShadowBound). No condition. -/
import Derived.Test.YtjmpfemlihjibaaD10
namespace Go.Proofs.Ytjmpfemlihjibaa
open Go.RowKit

set_option maxHeartbeats 1000000 in
set_option maxRecDepth 100000 in
theorem c_l20Facts (R : Nat) (p : Int) (w : World) (h : Rd R w p) (hp : p ≤ 800000000) : Calls Try.prog 83 #[.pointer (some ⟨R, 0, none⟩)] w (RetD R p 300 w (DrawnS w.heap.size)) := by
  have hRlt := h.lt
  have hk0 := (Kept.refl w).alloc (.cells #[.int .i64 0, .slice none 0 0, .slice none 0 0] 26)
  have hB0 := Blk.new w 26 #[.int .i64 0, .slice none 0 0, .slice none 0 0]
  have hb : But R (R + 1) w _ := But.of_kept hk0
  go_enter Try.func83, Try.ntmps83
  go_wp2_with fail
  refine (c_l20Task R 12 p _ (h.keep hk0) (by omega) (by omega) (by omega)).mono ?_; rintro e w3 ⟨v, p3, rfl, hR3, hp1, hp2, hB, st, A1, n1, c1, A2, n2, c2, rfl, hst, hG, hD, hn2⟩
  replace hb := hb.trans hB
  replace hB0 := hB.blk hB0 (.inr (by omega))
  have hsz3 := hB.size
  simp only [World.size_alloc] at hsz3 hG hD
  clear hB hk0 h
  have hkE := (Kept.refl w3).alloc (.cells #[.int .i64 st, .slice A1 n1 c1, .slice A2 n2 c2] 26)
  have hBE := Blk.new w3 26 #[.int .i64 st, .slice A1 n1 c1, .slice A2 n2 c2]
  have krE := RowsKept.of_kept (X := w.heap.size + 1) hkE
  replace hG := hG.kept krE.ints
  replace hD := hD.kept krE
  replace hb := hb.kept_ hkE
  replace hB0 := hB0.kept hkE
  have hR := hR3.keep hkE
  clear hkE krE hR3
  obtain ⟨E, HE⟩ : ∃ E, Hid (w3.heap.size = E) := ⟨_, rfl⟩
  obtain ⟨w4, HW4⟩ : ∃ w4, Hid (w3.alloc (.cells #[.int .i64 st, .slice A1 n1 c1, .slice A2 n2 c2] 26) = w4) := ⟨_, rfl⟩
  go_wp2_with fail
  have hEge : w.heap.size + 1 ≤ w3.heap.size := hsz3
  rw [HW4.out, HE.out] at hBE ⊢
  rw [HW4.out] at hG hD hb hB0 hR
  rw [HE.out] at hEge hsz3
  have hdz := (Kept.refl w4).drew
  have krz := RowsKept.of_kept (X := w.heap.size + 1) hdz
  replace hBE := hBE.kept hdz
  replace hB0 := hB0.kept hdz
  replace hb := hb.kept_ hdz
  replace hG := hG.kept krz.ints
  replace hD := hD.kept krz
  replace hR := hR.keep hdz
  clear krz hsz3
  refine wp_region_held_drew (S := fun w' => w'.cell? ⟨E, 0, none⟩ = some (.int .i64 st) ∧ w'.cell? ⟨E, 1, none⟩ = some (.slice A1 n1 c1) ∧ w'.cell? ⟨E, 2, none⟩ = some (.slice A2 n2 c2)) (by kernel_rfl) ⟨hBE.cell 0, hBE.cell 1, hBE.cell 2⟩ (fun hHeld => ?_)
  (refine take_val (i := 0) (v := .agg #[.int .i64 st, .slice A1 n1 c1, .slice A2 n2 c2]) rfl rfl (by kernel_rfl) (by kernel_rfl) (by kernel_rfl) (fun _ _ _ h => h) rfl (by intro wq hq; (try go_split_ands); go_simp; try with_reducible rfl) (hHeld) ?_; simp only [List.setIfInBounds_toArray, List.set_cons_zero, List.set_cons_succ])
  (refine take_val (i := 1) (v := .pointer (some ⟨R, 0, none⟩)) rfl rfl (by kernel_rfl) (by kernel_rfl) (by kernel_rfl) (fun _ _ _ h => h) rfl (by intro wq hq; (try go_split_ands); go_simp; try with_reducible rfl) (hHeld) ?_; simp only [List.setIfInBounds_toArray, List.set_cons_zero, List.set_cons_succ])
  (refine take_val (i := 3) (v := .pointer (some ⟨R, 0, none⟩)) rfl rfl (by kernel_rfl) (by kernel_rfl) (by kernel_rfl) (fun _ _ _ h => h) rfl (by intro wq hq; (try go_split_ands); go_simp; try with_reducible rfl) (hHeld) ?_; simp only [List.setIfInBounds_toArray, List.set_cons_zero, List.set_cons_succ])
  (refine take_val (i := 8) (v := .pointer (some ⟨R, 0, none⟩)) rfl rfl (by kernel_rfl) (by kernel_rfl) (by kernel_rfl) (fun _ _ _ h => h) rfl (by intro wq hq; (try go_split_ands); go_simp; try with_reducible rfl) (hHeld) ?_; simp only [List.setIfInBounds_toArray, List.set_cons_zero, List.set_cons_succ])
  clear hdz
  (refine wpAnyH_ready (rs := [2]) (by kernel_rfl) (by simp) ?_; refine AllReadyH.cons rfl (fun K hK => ?_) AllReadyH.nil; go_simp)
  refine (c_pick R 32 p3 _ hR (by omega) (by omega)).mono ?_; rintro e wA ⟨v, pA, rfl, hRn, hq1xa, hq2xa, hbn, xa, rfl, xa0, xa1⟩
  replace xa1 := xa1 (by omega)
  replace hBE := hbn.blk hBE (.inr (by omega))
  replace hb := hb.trans hbn
  replace hB0 := hbn.blk hB0 (.inr (by omega))
  replace hG := hG.kept (RowsKept.of_but (X := w.heap.size + 1) hbn (by omega)).ints
  replace hD := hD.kept (RowsKept.of_but (X := w.heap.size + 1) hbn (by omega))
  replace hR := hRn
  clear hbn hRn
  have hSxa : wA.cell? ⟨E, 0, none⟩ = some (.int .i64 st) ∧ wA.cell? ⟨E, 1, none⟩ = some (.slice A1 n1 c1) ∧ wA.cell? ⟨E, 2, none⟩ = some (.slice A2 n2 c2) := ⟨hBE.cell 0, hBE.cell 1, hBE.cell 2⟩
  (refine hK.out _ _ (hSxa) (fun _ => ?_); clear hK K; try simp only [Act.put, List.setIfInBounds_toArray, List.set_cons_zero, List.set_cons_succ])
  (refine wpAnyH_ready (rs := [4]) (by kernel_rfl) (by simp) ?_; refine AllReadyH.cons rfl (fun K hK => ?_) AllReadyH.nil; go_simp)
  refine (c_pick R 40 pA _ hR (by omega) (by omega)).mono ?_; rintro e wB ⟨v, pB, rfl, hRn, hq1xb, hq2xb, hbn, xb, rfl, xb0, xb1⟩
  replace xb1 := xb1 (by omega)
  replace hBE := hbn.blk hBE (.inr (by omega))
  replace hb := hb.trans hbn
  replace hB0 := hbn.blk hB0 (.inr (by omega))
  replace hG := hG.kept (RowsKept.of_but (X := w.heap.size + 1) hbn (by omega)).ints
  replace hD := hD.kept (RowsKept.of_but (X := w.heap.size + 1) hbn (by omega))
  replace hR := hRn
  clear hbn hRn
  have hSxb : wB.cell? ⟨E, 0, none⟩ = some (.int .i64 st) ∧ wB.cell? ⟨E, 1, none⟩ = some (.slice A1 n1 c1) ∧ wB.cell? ⟨E, 2, none⟩ = some (.slice A2 n2 c2) := ⟨hBE.cell 0, hBE.cell 1, hBE.cell 2⟩
  (refine hK.out _ _ (hSxb) (fun _ => ?_); clear hK K; try simp only [Act.put, List.setIfInBounds_toArray, List.set_cons_zero, List.set_cons_succ])
  obtain ⟨q1, hq1⟩ : ∃ q1, Int.tdiv xb 39 = q1 := ⟨_, rfl⟩
  have hq1' := quo39 xb0 xb1
  rw [hq1] at hq1'
  have hw1 : IntKind.i64.wrap q1 = q1 := by rw [IntKind.wrap_i64]; omega
  have hm1 : IntKind.i64.wrap (q1 * 32) = q1 * 32 := by rw [IntKind.wrap_i64]; omega
  have ha1 : IntKind.i64.wrap (xa + q1 * 32) = xa + q1 * 32 := by rw [IntKind.wrap_i64]; omega
  (refine take_val (i := 5) (v := .int .i64 q1) rfl rfl (by kernel_rfl) (by kernel_rfl) (by kernel_rfl) (fun _ _ _ h => h) rfl (by intro wq hq; (try go_split_ands); go_simp; try with_reducible rfl) (hSxb) ?_; simp only [List.setIfInBounds_toArray, List.set_cons_zero, List.set_cons_succ])
  (refine take_val (i := 6) (v := .int .i64 (q1 * 32)) rfl rfl (by kernel_rfl) (by kernel_rfl) (by kernel_rfl) (fun _ _ _ h => h) rfl (by intro wq hq; (try go_split_ands); go_simp; try with_reducible rfl) (hSxb) ?_; simp only [List.setIfInBounds_toArray, List.set_cons_zero, List.set_cons_succ])
  (refine take_val (i := 7) (v := .int .i64 (xa + q1 * 32)) rfl rfl (by kernel_rfl) (by kernel_rfl) (by kernel_rfl) (fun _ _ _ h => h) rfl (by intro wq hq; (try go_split_ands); go_simp; try with_reducible rfl) (hSxb) ?_; simp only [List.setIfInBounds_toArray, List.set_cons_zero, List.set_cons_succ])
  (refine wpAnyH_ready (rs := [9]) (by kernel_rfl) (by simp) ?_; refine AllReadyH.cons rfl (fun K hK => ?_) AllReadyH.nil; go_simp)
  refine (c_pick R 40 pB _ hR (by omega) (by omega)).mono ?_; rintro e wC ⟨v, pC, rfl, hRn, hq1xc, hq2xc, hbn, xc, rfl, xc0, xc1⟩
  replace xc1 := xc1 (by omega)
  replace hBE := hbn.blk hBE (.inr (by omega))
  replace hb := hb.trans hbn
  replace hB0 := hbn.blk hB0 (.inr (by omega))
  replace hG := hG.kept (RowsKept.of_but (X := w.heap.size + 1) hbn (by omega)).ints
  replace hD := hD.kept (RowsKept.of_but (X := w.heap.size + 1) hbn (by omega))
  replace hR := hRn
  clear hbn hRn
  have hSxc : wC.cell? ⟨E, 0, none⟩ = some (.int .i64 st) ∧ wC.cell? ⟨E, 1, none⟩ = some (.slice A1 n1 c1) ∧ wC.cell? ⟨E, 2, none⟩ = some (.slice A2 n2 c2) := ⟨hBE.cell 0, hBE.cell 1, hBE.cell 2⟩
  (refine hK.out _ _ (hSxc) (fun _ => ?_); clear hK K; try simp only [Act.put, List.setIfInBounds_toArray, List.set_cons_zero, List.set_cons_succ])
  obtain ⟨q2, hq2⟩ : ∃ q2, Int.tdiv xc 39 = q2 := ⟨_, rfl⟩
  have hq2' := quo39 xc0 xc1
  rw [hq2] at hq2'
  have hw2 : IntKind.i64.wrap q2 = q2 := by rw [IntKind.wrap_i64]; omega
  have hm2 : IntKind.i64.wrap (q2 * 40) = q2 * 40 := by rw [IntKind.wrap_i64]; omega
  have ha2 : IntKind.i64.wrap (xa + q1 * 32 - q2 * 40) = xa + q1 * 32 - q2 * 40 := by rw [IntKind.wrap_i64]; omega
  (refine take_val (i := 10) (v := .int .i64 q2) rfl rfl (by kernel_rfl) (by kernel_rfl) (by kernel_rfl) (fun _ _ _ h => h) rfl (by intro wq hq; (try go_split_ands); go_simp; try with_reducible rfl) (hSxc) ?_; simp only [List.setIfInBounds_toArray, List.set_cons_zero, List.set_cons_succ])
  (refine take_val (i := 11) (v := .int .i64 (q2 * 40)) rfl rfl (by kernel_rfl) (by kernel_rfl) (by kernel_rfl) (fun _ _ _ h => h) rfl (by intro wq hq; (try go_split_ands); go_simp; try with_reducible rfl) (hSxc) ?_; simp only [List.setIfInBounds_toArray, List.set_cons_zero, List.set_cons_succ])
  (refine take_val (i := 12) (v := .int .i64 (xa + q1 * 32 - q2 * 40)) rfl rfl (by kernel_rfl) (by kernel_rfl) (by kernel_rfl) (fun _ _ _ h => h) rfl (by intro wq hq; (try go_split_ands); go_simp; try with_reducible rfl) (hSxc) ?_; simp only [List.setIfInBounds_toArray, List.set_cons_zero, List.set_cons_succ])
  have ce := hB0.cell
  have fe := hB0.frozen
  have b1 := hB0.set_ 0 (.int .i64 st)
  have b2 := b1.set_ 1 (.slice A1 n1 c1)
  have k1 := RowsKept.set (X := w.heap.size + 1) hB0 (by decide) (by decide) 0 (.int .i64 st)
  have k2 := RowsKept.set (X := w.heap.size + 1) b1 (by decide) (by decide) 1 (.slice A1 n1 c1)
  have k3 := RowsKept.set (X := w.heap.size + 1) b2 (by decide) (by decide) 2 (.slice A2 n2 c2)
  have kk := (k1.trans k2).trans k3
  have hG2 := hG.kept kk.ints
  have hD2 := hD.kept kk
  have hle := Nat.le_refl w.heap.size
  have r4 := ((hR.setFar (a := ⟨w.heap.size, 0, none⟩) hRlt (.int .i64 st)).setFar (a := ⟨w.heap.size, 1, none⟩) hRlt (.slice A1 n1 c1)).setFar (a := ⟨w.heap.size, 2, none⟩) hRlt (.slice A2 n2 c2)
  have t4 := ((hb.setNew (p := ⟨w.heap.size, 0, none⟩) hle (.int .i64 st)).setNew (p := ⟨w.heap.size, 1, none⟩) hle (.slice A1 n1 c1)).setNew (p := ⟨w.heap.size, 2, none⟩) hle (.slice A2 n2 c2)
  have hne : E ≠ w.heap.size := by omega
  have hBF := ((hBE.far (p := ⟨w.heap.size, 0, none⟩) hne (.int .i64 st)).far (p := ⟨w.heap.size, 1, none⟩) hne (.slice A1 n1 c1)).far (p := ⟨w.heap.size, 2, none⟩) hne (.slice A2 n2 c2)
  clear hB0 hBE b1 b2 k1 k2 k3 kk hG hD hb hR
  have hSF := (⟨hBF.cell 0, hBF.cell 1, hBF.cell 2⟩ : _ ∧ _ ∧ _)
  (refine wpAnyH_ready (rs := [13]) (by kernel_rfl) (by simp) ?_; refine AllReadyH.cons rfl (fun K hK => ?_) AllReadyH.nil; go_simp)
  (refine hK.out _ _ (hSF) (fun _ => ?_); clear hK K; try simp only [Act.put, List.setIfInBounds_toArray, List.set_cons_zero, List.set_cons_succ])
  (refine take_val (i := 14) (v := .int .i64 (xa + q1 * 32 - q2 * 40)) rfl rfl (by kernel_rfl) (by kernel_rfl) (by kernel_rfl) (fun _ _ _ h => h) rfl (by intro wq hq; (try go_split_ands); go_simp; try with_reducible rfl) (hSF) ?_; simp only [List.setIfInBounds_toArray, List.set_cons_zero, List.set_cons_succ])
  refine wpAnyH_done (by kernel_rfl) ?_ _
  go_wp2_with fail
  refine bodyPost_ret (v := .tuple #[.agg #[.int .i64 st, .slice A1 n1 c1, .slice A2 n2 c2], .int .i64 (xa + q1 * 32 - q2 * 40)]) (by simp [results, Try.results83, go_sem, ce]) rfl ?_
  exact ⟨_, pC, rfl, r4, by omega, by omega, t4, ⟨_, _, rfl, ⟨st, A1, n1, c1, A2, n2, c2, rfl, hst, hG2.mono (by omega), hD2.mono (by omega), hn2⟩, by omega, by omega⟩⟩

set_option maxHeartbeats 1000000 in
set_option maxRecDepth 100000 in
theorem c_drawShadowSteps (A : Option Addr) (n c : Nat) (w : World) (h : BytesV w A n ∧ n ≤ c ∧ c ≤ maxLen) : Calls Try.prog 33 #[.slice A n c] w (RetS (DrawnS w.heap.size) w) := by
  have hk0 := (Kept.refl w).alloc (.cells #[.int .i64 0, .slice none 0 0, .slice none 0 0] 26)
  have hB0 := Blk.new w 26 #[.int .i64 0, .slice none 0 0, .slice none 0 0]
  have hb0 := h.1.keep hk0
  go_enter Try.func33, Try.ntmps33
  go_wp2_with fail
  refine (c_l20Open A n c _ hb0 h.2.1 h.2.2).mono ?_; rintro e w2 ⟨v, rfl, ⟨R, rfl, hRge, hR⟩, hk2⟩
  simp only [World.size_alloc] at hRge
  replace hk0 := hk0.trans hk2
  replace hB0 := hB0.kept hk2
  have hs2 := hk2.size
  simp only [World.size_alloc] at hs2
  clear hk2 hb0
  have hRlt := hR.lt
  go_wp2_with fail
  refine (c_l20Facts R 0 _ hR (by omega)).mono ?_; rintro e w3 ⟨v, p3, rfl, hR3, hp1, hp2, hB, _, x, rfl, ⟨st, A1, n1, c1, A2, n2, c2, rfl, hst, hG, hD, hn2⟩, hx0, hx1⟩
  replace hk0 := hB.kept hk0 (by omega)
  replace hB0 := hB.blk hB0 (.inl (by omega))
  clear hB hR hR3
  have ce := hB0.cell
  have fe := hB0.frozen
  have b1 := hB0.set_ 0 (.int .i64 st)
  have b2 := b1.set_ 1 (.slice A1 n1 c1)
  have k1 := RowsKept.set (X := w2.heap.size) hB0 (by decide) (by decide) 0 (.int .i64 st)
  have k2 := RowsKept.set (X := w2.heap.size) b1 (by decide) (by decide) 1 (.slice A1 n1 c1)
  have k3 := RowsKept.set (X := w2.heap.size) b2 (by decide) (by decide) 2 (.slice A2 n2 c2)
  have kk := (k1.trans k2).trans k3
  have hG2 := hG.kept kk.ints
  have hD2 := hD.kept kk
  have hle := Nat.le_refl w.heap.size
  have hkF := ((hk0.setCell (p := ⟨w.heap.size, 0, none⟩) hle (.int .i64 st)).setCell (p := ⟨w.heap.size, 1, none⟩) hle (.slice A1 n1 c1)).setCell (p := ⟨w.heap.size, 2, none⟩) hle (.slice A2 n2 c2)
  clear hB0 b1 b2 k1 k2 k3 kk hG hD hk0
  go_wp2_with fail
  refine bodyPost_ret (v := .tuple #[.agg #[.int .i64 st, .slice A1 n1 c1, .slice A2 n2 c2], .int .i64 x]) (by simp [results, Try.results33, go_sem, ce]) rfl ?_
  exact ⟨_, rfl, ⟨_, _, rfl, ⟨st, A1, n1, c1, A2, n2, c2, rfl, hst, hG2.mono (by omega), hD2.mono (by omega), hn2⟩, hx0, hx1⟩, hkF⟩

set_option maxHeartbeats 1000000 in
set_option maxRecDepth 100000 in
theorem c_drawShadowBound (A : Option Addr) (n c : Nat) (w : World) (h : BytesV w A n ∧ n ≤ c ∧ c ≤ maxLen) : Calls Try.prog 37 #[.slice A n c] w (RetS (DrawnS w.heap.size) w) := by
  have hk0 := (Kept.refl w).alloc (.cells #[.int .i64 0, .slice none 0 0, .slice none 0 0] 26)
  have hB0 := Blk.new w 26 #[.int .i64 0, .slice none 0 0, .slice none 0 0]
  have hb0 := h.1.keep hk0
  go_enter Try.func37, Try.ntmps37
  go_wp2_with fail
  refine (c_l20Open A n c _ hb0 h.2.1 h.2.2).mono ?_; rintro e w2 ⟨v, rfl, ⟨R, rfl, hRge, hR⟩, hk2⟩
  simp only [World.size_alloc] at hRge
  replace hk0 := hk0.trans hk2
  replace hB0 := hB0.kept hk2
  have hs2 := hk2.size
  simp only [World.size_alloc] at hs2
  clear hk2 hb0
  have hRlt := hR.lt
  go_wp2_with fail
  refine (c_l20Facts R 0 _ hR (by omega)).mono ?_; rintro e w3 ⟨v, p3, rfl, hR3, hp1, hp2, hB, _, x, rfl, ⟨st, A1, n1, c1, A2, n2, c2, rfl, hst, hG, hD, hn2⟩, hx0, hx1⟩
  replace hk0 := hB.kept hk0 (by omega)
  replace hB0 := hB.blk hB0 (.inl (by omega))
  clear hB hR hR3
  have ce := hB0.cell
  have fe := hB0.frozen
  have b1 := hB0.set_ 0 (.int .i64 st)
  have b2 := b1.set_ 1 (.slice A1 n1 c1)
  have k1 := RowsKept.set (X := w2.heap.size) hB0 (by decide) (by decide) 0 (.int .i64 st)
  have k2 := RowsKept.set (X := w2.heap.size) b1 (by decide) (by decide) 1 (.slice A1 n1 c1)
  have k3 := RowsKept.set (X := w2.heap.size) b2 (by decide) (by decide) 2 (.slice A2 n2 c2)
  have kk := (k1.trans k2).trans k3
  have hG2 := hG.kept kk.ints
  have hD2 := hD.kept kk
  have hle := Nat.le_refl w.heap.size
  have hkF := ((hk0.setCell (p := ⟨w.heap.size, 0, none⟩) hle (.int .i64 st)).setCell (p := ⟨w.heap.size, 1, none⟩) hle (.slice A1 n1 c1)).setCell (p := ⟨w.heap.size, 2, none⟩) hle (.slice A2 n2 c2)
  clear hB0 b1 b2 k1 k2 k3 kk hG hD hk0
  go_wp2_with fail
  refine bodyPost_ret (v := .tuple #[.agg #[.int .i64 st, .slice A1 n1 c1, .slice A2 n2 c2], .int .i64 x]) (by simp [results, Try.results37, go_sem, ce]) rfl ?_
  exact ⟨_, rfl, ⟨_, _, rfl, ⟨st, A1, n1, c1, A2, n2, c2, rfl, hst, hG2.mono (by omega), hD2.mono (by omega), hn2⟩, hx0, hx1⟩, hkF⟩

end Go.Proofs.Ytjmpfemlihjibaa
