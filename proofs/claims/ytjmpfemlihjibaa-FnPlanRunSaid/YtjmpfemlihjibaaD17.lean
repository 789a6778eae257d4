/- Walks: the draw of a task, a state and a plan (FnPlanRun). No condition. -/
import Derived.Test.YtjmpfemlihjibaaD16
namespace Go.Proofs.Ytjmpfemlihjibaa
open Go.RowKit

theorem own_lies {w : World} {X : Nat} {A : Option Addr} {m c : Nat} {xs : List Value} (h : w.ownsRow X 3 1 (.slice A m c) m xs) : (A = none ∧ m = 0 ∧ c = 0) ∨ ∃ g, A = some ⟨g, 0, none⟩ ∧ m ≤ c := by
  rcases h.2 with ⟨e, _⟩ | ⟨g, cap, cur, e, _, _, h3, _⟩
  · simp only [Value.slice.injEq] at e
    exact .inl e
  · simp only [Value.slice.injEq] at e
    obtain ⟨rfl, _, rfl⟩ := e
    exact .inr ⟨g, rfl, h3⟩
theorem own_made41 (X : Nat) (w : World) (hX : X ≤ w.heap.size) : (w.alloc (.cells (madeCells #[.int .i64 0] 41) 3)).ownsRow X 3 1 (.slice (some ⟨w.heap.size, 0, none⟩) 41 41) 41 ((List.replicate 41 (0 : Int)).map (Value.int .i64)) :=
  ⟨by simp, .inr ⟨w.heap.size, 41, madeCells #[.int .i64 0] 41, rfl, hX, heap_alloc_new w _, Nat.le_refl _, by unfold maxLen; omega, by simp [madeCells], by kernel_rfl⟩⟩
theorem make_41 (w : World) : (Instr.makeSlice 23 (.int .i64 41) (.int .i64 41)).run Try.prog w = .ok (.slice (some ⟨w.heap.size, 0, none⟩) 41 41) (w.alloc (.cells (madeCells #[.int .i64 0] 41) 3)) := make_ints 41 (by omega) w
/-- a task, a state and a plan that a draw made -/
def DrawnR2 (v : Value) (w : World) : Prop := ∃ tv t s A m c l, v = .tuple #[tv, .int .i64 s, .slice A m c] ∧ TaskV w tv t ∧ Ints w A m l ∧ m ≤ 41 ∧ ((A = none ∧ m = 0 ∧ c = 0) ∨ ∃ g, A = some ⟨g, 0, none⟩ ∧ m ≤ c)

set_option maxHeartbeats 2000000 in
set_option maxRecDepth 100000 in
theorem c_drawPlanRun (A : Option Addr) (n c : Nat) (w : World) (h : BytesV w A n ∧ n ≤ c ∧ c ≤ maxLen) : Calls Try.prog 30 #[.slice A n c] w (RetS DrawnR2 w) := by
  have hk0 := (Kept.refl w).alloc (.cells #[.int .i64 0, .slice none 0 0, .slice none 0 0] 26)
  have hB0 := Blk.new w 26 #[.int .i64 0, .slice none 0 0, .slice none 0 0]
  have hb0 := h.1.keep hk0
  go_enter Try.func30, Try.ntmps30
  go_wp2_with fail
  refine (c_l20Open A n c _ hb0 h.2.1 h.2.2).mono ?_; rintro e wo ⟨v, rfl, ⟨R, rfl, hRge, hR⟩, hk2⟩
  simp only [World.size_alloc] at hRge
  replace hk0 := hk0.trans hk2
  replace hB0 := hB0.kept hk2
  clear hk2 hb0
  have hRlt := hR.lt
  go_wp2_with fail
  refine (c_l20Task R 12 0 _ hR (by omega) (by omega) (by omega)).mono ?_; rintro e w3 ⟨v, p3, rfl, hR3, hp1, hp2, hB, st, A1, n1, c1, A2, n2, c2, rfl, hst, hG, hD, hn2⟩
  replace hk0 := hB.kept hk0 (by omega)
  replace hB0 := hB.blk hB0 (.inl (by omega))
  have hsz3 := hB.size
  clear hB hR
  obtain ⟨t, ht8, hTW⟩ := TaskQ.task2 ⟨st, A1, n1, c1, A2, n2, c2, rfl, hst, hG, hD, hn2⟩
  have hkE := (Kept.refl w3).alloc (.cells #[.int .i64 st, .slice A1 n1 c1, .slice A2 n2 c2] 26)
  have hBE := Blk.new w3 26 #[.int .i64 st, .slice A1 n1 c1, .slice A2 n2 c2]
  have krA := RowsKept.of_kept (X := wo.heap.size) hkE
  replace hG := hG.kept krA.ints
  replace hD := hD.kept krA
  replace hk0 := hk0.trans hkE
  replace hB0 := hB0.kept hkE
  have hR := hR3.keep hkE
  clear hkE hR3
  obtain ⟨wE, HWE⟩ : ∃ wE, Hid (w3.alloc (.cells #[.int .i64 st, .slice A1 n1 c1, .slice A2 n2 c2] 26) = wE) := ⟨_, rfl⟩
  obtain ⟨E, HE⟩ : ∃ E, Hid (w3.heap.size = E) := ⟨_, rfl⟩
  have hEge : wo.heap.size ≤ w3.heap.size := hsz3
  have hXE : wE.heap.size = E + 1 := by rw [← HWE.out, ← HE.out]; simp
  go_wp2_with fail
  rw [HE.out] at hEge
  rw [HWE.out, HE.out] at hBE ⊢
  rw [HWE.out] at hG hD hk0 hB0 hR krA
  refine (c_l20Plan R wo.heap.size p3 _ t _ hR (by omega) (by omega) ht8 (fun w' hk => hTW w' (krA.trans hk))).mono ?_; rintro e wA ⟨v, pA, rfl, hRn, hq1, hq2, hbn, A5, m5, c5, l5, rfl, hm5, hown, hin5⟩
  replace hBE := hbn.blk hBE (.inr (by omega))
  replace hk0 := hbn.kept hk0 (by omega)
  replace hB0 := hbn.blk hB0 (.inl (by omega))
  replace hG := hG.kept (RowsKept.of_but (X := wo.heap.size) hbn hRlt).ints
  replace hD := hD.kept (RowsKept.of_but (X := wo.heap.size) hbn hRlt)
  replace hR := hRn
  replace hown := ownsRow_mono (X := wo.heap.size) hown (by omega)
  clear hbn hRn hTW krA
  go_wp2_with fail
  refine (c_odd R 40 pA _ hR (by omega) (by omega) (by omega)).mono ?_; rintro e wB ⟨v, pB, rfl, hRn, hq3, hq4, hbn, bb, rfl⟩
  replace hBE := hbn.blk hBE (.inr (by omega))
  replace hk0 := hbn.kept hk0 (by omega)
  replace hB0 := hbn.blk hB0 (.inl (by omega))
  replace hG := hG.kept (RowsKept.of_but (X := wo.heap.size) hbn hRlt).ints
  replace hD := hD.kept (RowsKept.of_but (X := wo.heap.size) hbn hRlt)
  replace hR := hRn
  replace hown := own_but hown hbn (by omega)
  have hszB : wo.heap.size ≤ wB.heap.size := by have := hBE.lt; omega
  clear hbn hRn
  cases bb
  · skip
    go_wp2_with fail
    refine (c_pick R 3 pB _ hR (by omega) (by omega)).mono ?_; rintro e wC ⟨v, pC, rfl, hRn, hq5, hq6, hbn, x, rfl, hx0, hx1⟩
    replace hx1 := hx1 (by omega)
    replace hBE := hbn.blk hBE (.inr (by omega))
    replace hk0 := hbn.kept hk0 (by omega)
    replace hB0 := hbn.blk hB0 (.inl (by omega))
    replace hG := hG.kept (RowsKept.of_but (X := wo.heap.size) hbn hRlt).ints
    replace hD := hD.kept (RowsKept.of_but (X := wo.heap.size) hbn hRlt)
    replace hR := hRn
    replace hown := own_but hown hbn (by omega)
    clear hbn hRn
    by_cases hx : x = 0
    · subst hx
      go_wp2_with fail
      have hdz := (Kept.refl wC).drew
      have krz := RowsKept.of_kept (X := wo.heap.size) hdz
      replace hBE := hBE.kept hdz
      replace hB0 := hB0.kept hdz
      replace hk0 := hk0.trans hdz
      replace hG := hG.kept krz.ints
      replace hD := hD.kept krz
      replace hR := hR.keep hdz
      replace hown := own_keep hown hdz
      clear krz
      refine wp_region_held_drew (S := fun w' => w'.cell? ⟨E, 0, none⟩ = some (.int .i64 st) ∧ w'.cell? ⟨E, 1, none⟩ = some (.slice A1 n1 c1) ∧ w'.cell? ⟨E, 2, none⟩ = some (.slice A2 n2 c2)) (by kernel_rfl) ⟨hBE.cell 0, hBE.cell 1, hBE.cell 2⟩ (fun hHeld => ?_)
      clear hdz
      (refine take_val (i := 0) (v := .agg #[.int .i64 st, .slice A1 n1 c1, .slice A2 n2 c2]) rfl rfl (by kernel_rfl) (by kernel_rfl) (by kernel_rfl) (fun _ _ _ h => h) rfl (by intro wq hq; (try go_split_ands); go_simp; try with_reducible rfl) (hHeld) ?_; simp only [List.setIfInBounds_toArray, List.set_cons_zero, List.set_cons_succ])
      (refine take_val (i := 1) (v := .pointer (some ⟨R, 0, none⟩)) rfl rfl (by kernel_rfl) (by kernel_rfl) (by kernel_rfl) (fun _ _ _ h => h) rfl (by intro wq hq; (try go_split_ands); go_simp; try with_reducible rfl) (hHeld) ?_; simp only [List.setIfInBounds_toArray, List.set_cons_zero, List.set_cons_succ])
      (refine take_val (i := 3) (v := .slice A5 m5 c5) rfl rfl (by kernel_rfl) (by kernel_rfl) (by kernel_rfl) (fun _ _ _ h => h) rfl (by intro wq hq; (try go_split_ands); go_simp; try with_reducible rfl) (hHeld) ?_; simp only [List.setIfInBounds_toArray, List.set_cons_zero, List.set_cons_succ])
      (refine wpAnyH_ready (rs := [2]) (by kernel_rfl) (by simp) ?_; refine AllReadyH.cons rfl (fun K hK => ?_) AllReadyH.nil; go_simp)
      refine (c_pick R 32 pC _ hR (by omega) (by omega)).mono ?_; rintro e wD ⟨v, pD, rfl, hRn, hq7, hq8, hbn, y, rfl, hy0, hy1⟩
      replace hBE := hbn.blk hBE (.inr (by omega))
      replace hk0 := hbn.kept hk0 (by omega)
      replace hB0 := hbn.blk hB0 (.inl (by omega))
      replace hG := hG.kept (RowsKept.of_but (X := wo.heap.size) hbn hRlt).ints
      replace hD := hD.kept (RowsKept.of_but (X := wo.heap.size) hbn hRlt)
      replace hR := hRn
      replace hown := own_but hown hbn (by omega)
      clear hbn hRn hHeld
      have hSx : wD.cell? ⟨E, 0, none⟩ = some (.int .i64 st) ∧ wD.cell? ⟨E, 1, none⟩ = some (.slice A1 n1 c1) ∧ wD.cell? ⟨E, 2, none⟩ = some (.slice A2 n2 c2) := ⟨hBE.cell 0, hBE.cell 1, hBE.cell 2⟩
      (refine hK.out _ _ (hSx) (fun _ => ?_); clear hK K; try simp only [Act.put, List.setIfInBounds_toArray, List.set_cons_zero, List.set_cons_succ])
      have ce := hB0.cell
      have fe := hB0.frozen
      have b1 := hB0.set_ 0 (.int .i64 st)
      have b2 := b1.set_ 1 (.slice A1 n1 c1)
      have k1 := RowsKept.set (X := wo.heap.size) hB0 (by decide) (by decide) 0 (.int .i64 st)
      have k2 := RowsKept.set (X := wo.heap.size) b1 (by decide) (by decide) 1 (.slice A1 n1 c1)
      have k3 := RowsKept.set (X := wo.heap.size) b2 (by decide) (by decide) 2 (.slice A2 n2 c2)
      have kk := (k1.trans k2).trans k3
      have hG2 := hG.kept kk.ints
      have hD2 := hD.kept kk
      have hOw2 := kk.ints _ _ _ _ hown
      have hle := Nat.le_refl w.heap.size
      have hkF := ((hk0.setCell (p := ⟨w.heap.size, 0, none⟩) hle (.int .i64 st)).setCell (p := ⟨w.heap.size, 1, none⟩) hle (.slice A1 n1 c1)).setCell (p := ⟨w.heap.size, 2, none⟩) hle (.slice A2 n2 c2)
      have hne : E ≠ w.heap.size := by omega
      have hBF := ((hBE.far (p := ⟨w.heap.size, 0, none⟩) hne (.int .i64 st)).far (p := ⟨w.heap.size, 1, none⟩) hne (.slice A1 n1 c1)).far (p := ⟨w.heap.size, 2, none⟩) hne (.slice A2 n2 c2)
      clear hB0 hBE b1 b2 k1 k2 k3 kk hG hD hk0
      have hSF := (⟨hBF.cell 0, hBF.cell 1, hBF.cell 2⟩ : _ ∧ _ ∧ _)
      (refine wpAnyH_ready (rs := [4]) (by kernel_rfl) (by simp) ?_; refine AllReadyH.cons rfl (fun K hK => ?_) AllReadyH.nil; go_simp)
      (refine hK.out _ _ (hSF) (fun _ => ?_); clear hK K; try simp only [Act.put, List.setIfInBounds_toArray, List.set_cons_zero, List.set_cons_succ])
      (refine take_val (i := 5) (v := .int .i64 y) rfl rfl (by kernel_rfl) (by kernel_rfl) (by kernel_rfl) (fun _ _ _ h => h) rfl (by intro wq hq; (try go_split_ands); go_simp; try with_reducible rfl) (hSF) ?_; simp only [List.setIfInBounds_toArray, List.set_cons_zero, List.set_cons_succ])
      (refine take_val (i := 6) (v := .slice A5 m5 c5) rfl rfl (by kernel_rfl) (by kernel_rfl) (by kernel_rfl) (fun _ _ _ h => h) rfl (by intro wq hq; (try go_split_ands); go_simp; try with_reducible rfl) (hSF) ?_; simp only [List.setIfInBounds_toArray, List.set_cons_zero, List.set_cons_succ])
      refine wpAnyH_done (by kernel_rfl) ?_ _
      go_wp2_with fail
      refine bodyPost_ret (v := .tuple #[.agg #[.int .i64 st, .slice A1 n1 c1, .slice A2 n2 c2], .int .i64 y, .slice A5 m5 c5]) (by simp [results, Try.results30, go_sem, ce]) rfl ?_
      obtain ⟨tt, hTT, _⟩ := TaskQ.task ⟨st, A1, n1, c1, A2, n2, c2, rfl, hst, hG2, hD2, hn2⟩
      exact ⟨_, rfl, ⟨_, tt, _, _, _, _, _, rfl, hTT, own_ints (by omega) hOw2 hin5, by omega, own_lies hOw2⟩, hkF⟩
    · have hxp : 0 < x := by omega
      have cbE := hBE.cell
      go_wp2_with fail
      clear cbE
      have hdz := (Kept.refl wC).drew
      have krz := RowsKept.of_kept (X := wo.heap.size) hdz
      replace hBE := hBE.kept hdz
      replace hB0 := hB0.kept hdz
      replace hk0 := hk0.trans hdz
      replace hG := hG.kept krz.ints
      replace hD := hD.kept krz
      replace hR := hR.keep hdz
      replace hown := own_keep hown hdz
      clear krz
      refine wp_region_held_drew (S := fun w' => w'.cell? ⟨E, 0, none⟩ = some (.int .i64 st) ∧ w'.cell? ⟨E, 1, none⟩ = some (.slice A1 n1 c1) ∧ w'.cell? ⟨E, 2, none⟩ = some (.slice A2 n2 c2)) (by kernel_rfl) ⟨hBE.cell 0, hBE.cell 1, hBE.cell 2⟩ (fun hHeld => ?_)
      clear hdz
      (refine take_val (i := 0) (v := .agg #[.int .i64 st, .slice A1 n1 c1, .slice A2 n2 c2]) rfl rfl (by kernel_rfl) (by kernel_rfl) (by kernel_rfl) (fun _ _ _ h => h) rfl (by intro wq hq; (try go_split_ands); go_simp; try with_reducible rfl) (hHeld) ?_; simp only [List.setIfInBounds_toArray, List.set_cons_zero, List.set_cons_succ])
      (refine take_val (i := 1) (v := .pointer (some ⟨E, 0, none⟩)) rfl rfl (by kernel_rfl) (by kernel_rfl) (by kernel_rfl) (fun _ _ _ h => h) rfl (by intro wq hq; (try go_split_ands); go_simp; try with_reducible rfl) (hHeld) ?_; simp only [List.setIfInBounds_toArray, List.set_cons_zero, List.set_cons_succ])
      (refine take_val (i := 2) (v := .int .i64 st) rfl rfl (by kernel_rfl) (by kernel_rfl) (by kernel_rfl) (fun _ _ _ h => h) rfl (by intro wq hq; (try go_split_ands); go_simp; try with_reducible rfl) (hHeld) ?_; simp only [List.setIfInBounds_toArray, List.set_cons_zero, List.set_cons_succ])
      (refine take_val (i := 3) (v := .slice A5 m5 c5) rfl rfl (by kernel_rfl) (by kernel_rfl) (by kernel_rfl) (fun _ _ _ h => h) rfl (by intro wq hq; (try go_split_ands); go_simp; try with_reducible rfl) (hHeld) ?_; simp only [List.setIfInBounds_toArray, List.set_cons_zero, List.set_cons_succ])
      generalize wC.drew = wZ at *
      have ce := hB0.cell
      have fe := hB0.frozen
      have b1 := hB0.set_ 0 (.int .i64 st)
      have b2 := b1.set_ 1 (.slice A1 n1 c1)
      have k1 := RowsKept.set (X := wo.heap.size) hB0 (by decide) (by decide) 0 (.int .i64 st)
      have k2 := RowsKept.set (X := wo.heap.size) b1 (by decide) (by decide) 1 (.slice A1 n1 c1)
      have k3 := RowsKept.set (X := wo.heap.size) b2 (by decide) (by decide) 2 (.slice A2 n2 c2)
      have kk := (k1.trans k2).trans k3
      have hG2 := hG.kept kk.ints
      have hD2 := hD.kept kk
      have hOw2 := kk.ints _ _ _ _ hown
      have hle := Nat.le_refl w.heap.size
      have hkF := ((hk0.setCell (p := ⟨w.heap.size, 0, none⟩) hle (.int .i64 st)).setCell (p := ⟨w.heap.size, 1, none⟩) hle (.slice A1 n1 c1)).setCell (p := ⟨w.heap.size, 2, none⟩) hle (.slice A2 n2 c2)
      have hne : E ≠ w.heap.size := by omega
      have hBF := ((hBE.far (p := ⟨w.heap.size, 0, none⟩) hne (.int .i64 st)).far (p := ⟨w.heap.size, 1, none⟩) hne (.slice A1 n1 c1)).far (p := ⟨w.heap.size, 2, none⟩) hne (.slice A2 n2 c2)
      clear hB0 hBE b1 b2 k1 k2 k3 kk hG hD hk0
      have hSF := (⟨hBF.cell 0, hBF.cell 1, hBF.cell 2⟩ : _ ∧ _ ∧ _)
      (refine wpAnyH_ready (rs := [4]) (by kernel_rfl) (by simp) ?_; refine AllReadyH.cons rfl (fun K hK => ?_) AllReadyH.nil; go_simp)
      (refine hK.out _ _ (hSF) (fun _ => ?_); clear hK K; try simp only [Act.put, List.setIfInBounds_toArray, List.set_cons_zero, List.set_cons_succ])
      (refine take_val (i := 5) (v := .int .i64 st) rfl rfl (by kernel_rfl) (by kernel_rfl) (by kernel_rfl) (fun _ _ _ h => h) rfl (by intro wq hq; (try go_split_ands); go_simp; try with_reducible rfl) (hSF) ?_; simp only [List.setIfInBounds_toArray, List.set_cons_zero, List.set_cons_succ])
      (refine take_val (i := 6) (v := .slice A5 m5 c5) rfl rfl (by kernel_rfl) (by kernel_rfl) (by kernel_rfl) (fun _ _ _ h => h) rfl (by intro wq hq; (try go_split_ands); go_simp; try with_reducible rfl) (hSF) ?_; simp only [List.setIfInBounds_toArray, List.set_cons_zero, List.set_cons_succ])
      refine wpAnyH_done (by kernel_rfl) ?_ _
      go_wp2_with fail
      refine bodyPost_ret (v := .tuple #[.agg #[.int .i64 st, .slice A1 n1 c1, .slice A2 n2 c2], .int .i64 st, .slice A5 m5 c5]) (by simp [results, Try.results30, go_sem, ce]) rfl ?_
      obtain ⟨tt, hTT, _⟩ := TaskQ.task ⟨st, A1, n1, c1, A2, n2, c2, rfl, hst, hG2, hD2, hn2⟩
      exact ⟨_, rfl, ⟨_, tt, _, _, _, _, _, rfl, hTT, own_ints (by omega) hOw2 hin5, by omega, own_lies hOw2⟩, hkF⟩
  · clear hown hin5 hm5
    have hmk := make_41
    have hkM := (Kept.refl wB).alloc (.cells (madeCells #[.int .i64 0] 41) 3)
    have krM := RowsKept.of_kept (X := wo.heap.size) hkM
    have hown := own_made41 wo.heap.size wB hszB
    have hin5 : ∀ x ∈ List.replicate 41 (0 : Int), Sp.inI x := fun x hx => by
      obtain rfl := List.eq_of_mem_replicate hx
      unfold Sp.inI; omega
    replace hBE := hBE.kept hkM
    replace hB0 := hB0.kept hkM
    replace hk0 := hk0.trans hkM
    replace hG := hG.kept krM.ints
    replace hD := hD.kept krM
    replace hR := hR.keep hkM
    clear hkM krM
    go_wp2_with fail
    refine (c_pick R 3 pB _ hR (by omega) (by omega)).mono ?_; rintro e wC ⟨v, pC, rfl, hRn, hq5, hq6, hbn, x, rfl, hx0, hx1⟩
    replace hx1 := hx1 (by omega)
    replace hBE := hbn.blk hBE (.inr (by omega))
    replace hk0 := hbn.kept hk0 (by omega)
    replace hB0 := hbn.blk hB0 (.inl (by omega))
    replace hG := hG.kept (RowsKept.of_but (X := wo.heap.size) hbn hRlt).ints
    replace hD := hD.kept (RowsKept.of_but (X := wo.heap.size) hbn hRlt)
    replace hR := hRn
    replace hown := own_but hown hbn (by omega)
    clear hbn hRn
    by_cases hx : x = 0
    · subst hx
      go_wp2_with fail
      have hdz := (Kept.refl wC).drew
      have krz := RowsKept.of_kept (X := wo.heap.size) hdz
      replace hBE := hBE.kept hdz
      replace hB0 := hB0.kept hdz
      replace hk0 := hk0.trans hdz
      replace hG := hG.kept krz.ints
      replace hD := hD.kept krz
      replace hR := hR.keep hdz
      replace hown := own_keep hown hdz
      clear krz
      refine wp_region_held_drew (S := fun w' => w'.cell? ⟨E, 0, none⟩ = some (.int .i64 st) ∧ w'.cell? ⟨E, 1, none⟩ = some (.slice A1 n1 c1) ∧ w'.cell? ⟨E, 2, none⟩ = some (.slice A2 n2 c2)) (by kernel_rfl) ⟨hBE.cell 0, hBE.cell 1, hBE.cell 2⟩ (fun hHeld => ?_)
      clear hdz
      (refine take_val (i := 0) (v := .agg #[.int .i64 st, .slice A1 n1 c1, .slice A2 n2 c2]) rfl rfl (by kernel_rfl) (by kernel_rfl) (by kernel_rfl) (fun _ _ _ h => h) rfl (by intro wq hq; (try go_split_ands); go_simp; try with_reducible rfl) (hHeld) ?_; simp only [List.setIfInBounds_toArray, List.set_cons_zero, List.set_cons_succ])
      (refine take_val (i := 1) (v := .pointer (some ⟨R, 0, none⟩)) rfl rfl (by kernel_rfl) (by kernel_rfl) (by kernel_rfl) (fun _ _ _ h => h) rfl (by intro wq hq; (try go_split_ands); go_simp; try with_reducible rfl) (hHeld) ?_; simp only [List.setIfInBounds_toArray, List.set_cons_zero, List.set_cons_succ])
      (refine take_val (i := 3) (v := .slice (some ⟨wB.heap.size, 0, none⟩) 41 41) rfl rfl (by kernel_rfl) (by kernel_rfl) (by kernel_rfl) (fun _ _ _ h => h) rfl (by intro wq hq; (try go_split_ands); go_simp; try with_reducible rfl) (hHeld) ?_; simp only [List.setIfInBounds_toArray, List.set_cons_zero, List.set_cons_succ])
      (refine wpAnyH_ready (rs := [2]) (by kernel_rfl) (by simp) ?_; refine AllReadyH.cons rfl (fun K hK => ?_) AllReadyH.nil; go_simp)
      refine (c_pick R 32 pC _ hR (by omega) (by omega)).mono ?_; rintro e wD ⟨v, pD, rfl, hRn, hq7, hq8, hbn, y, rfl, hy0, hy1⟩
      replace hBE := hbn.blk hBE (.inr (by omega))
      replace hk0 := hbn.kept hk0 (by omega)
      replace hB0 := hbn.blk hB0 (.inl (by omega))
      replace hG := hG.kept (RowsKept.of_but (X := wo.heap.size) hbn hRlt).ints
      replace hD := hD.kept (RowsKept.of_but (X := wo.heap.size) hbn hRlt)
      replace hR := hRn
      replace hown := own_but hown hbn (by omega)
      clear hbn hRn hHeld
      have hSx : wD.cell? ⟨E, 0, none⟩ = some (.int .i64 st) ∧ wD.cell? ⟨E, 1, none⟩ = some (.slice A1 n1 c1) ∧ wD.cell? ⟨E, 2, none⟩ = some (.slice A2 n2 c2) := ⟨hBE.cell 0, hBE.cell 1, hBE.cell 2⟩
      (refine hK.out _ _ (hSx) (fun _ => ?_); clear hK K; try simp only [Act.put, List.setIfInBounds_toArray, List.set_cons_zero, List.set_cons_succ])
      have ce := hB0.cell
      have fe := hB0.frozen
      have b1 := hB0.set_ 0 (.int .i64 st)
      have b2 := b1.set_ 1 (.slice A1 n1 c1)
      have k1 := RowsKept.set (X := wo.heap.size) hB0 (by decide) (by decide) 0 (.int .i64 st)
      have k2 := RowsKept.set (X := wo.heap.size) b1 (by decide) (by decide) 1 (.slice A1 n1 c1)
      have k3 := RowsKept.set (X := wo.heap.size) b2 (by decide) (by decide) 2 (.slice A2 n2 c2)
      have kk := (k1.trans k2).trans k3
      have hG2 := hG.kept kk.ints
      have hD2 := hD.kept kk
      have hOw2 := kk.ints _ _ _ _ hown
      have hle := Nat.le_refl w.heap.size
      have hkF := ((hk0.setCell (p := ⟨w.heap.size, 0, none⟩) hle (.int .i64 st)).setCell (p := ⟨w.heap.size, 1, none⟩) hle (.slice A1 n1 c1)).setCell (p := ⟨w.heap.size, 2, none⟩) hle (.slice A2 n2 c2)
      have hne : E ≠ w.heap.size := by omega
      have hBF := ((hBE.far (p := ⟨w.heap.size, 0, none⟩) hne (.int .i64 st)).far (p := ⟨w.heap.size, 1, none⟩) hne (.slice A1 n1 c1)).far (p := ⟨w.heap.size, 2, none⟩) hne (.slice A2 n2 c2)
      clear hB0 hBE b1 b2 k1 k2 k3 kk hG hD hk0
      have hSF := (⟨hBF.cell 0, hBF.cell 1, hBF.cell 2⟩ : _ ∧ _ ∧ _)
      (refine wpAnyH_ready (rs := [4]) (by kernel_rfl) (by simp) ?_; refine AllReadyH.cons rfl (fun K hK => ?_) AllReadyH.nil; go_simp)
      (refine hK.out _ _ (hSF) (fun _ => ?_); clear hK K; try simp only [Act.put, List.setIfInBounds_toArray, List.set_cons_zero, List.set_cons_succ])
      (refine take_val (i := 5) (v := .int .i64 y) rfl rfl (by kernel_rfl) (by kernel_rfl) (by kernel_rfl) (fun _ _ _ h => h) rfl (by intro wq hq; (try go_split_ands); go_simp; try with_reducible rfl) (hSF) ?_; simp only [List.setIfInBounds_toArray, List.set_cons_zero, List.set_cons_succ])
      (refine take_val (i := 6) (v := .slice (some ⟨wB.heap.size, 0, none⟩) 41 41) rfl rfl (by kernel_rfl) (by kernel_rfl) (by kernel_rfl) (fun _ _ _ h => h) rfl (by intro wq hq; (try go_split_ands); go_simp; try with_reducible rfl) (hSF) ?_; simp only [List.setIfInBounds_toArray, List.set_cons_zero, List.set_cons_succ])
      refine wpAnyH_done (by kernel_rfl) ?_ _
      go_wp2_with fail
      refine bodyPost_ret (v := .tuple #[.agg #[.int .i64 st, .slice A1 n1 c1, .slice A2 n2 c2], .int .i64 y, .slice (some ⟨wB.heap.size, 0, none⟩) 41 41]) (by simp [results, Try.results30, go_sem, ce]) rfl ?_
      obtain ⟨tt, hTT, _⟩ := TaskQ.task ⟨st, A1, n1, c1, A2, n2, c2, rfl, hst, hG2, hD2, hn2⟩
      exact ⟨_, rfl, ⟨_, tt, _, _, _, _, _, rfl, hTT, own_ints (by omega) hOw2 hin5, by omega, own_lies hOw2⟩, hkF⟩
    · have hxp : 0 < x := by omega
      have cbE := hBE.cell
      go_wp2_with fail
      clear cbE
      have hdz := (Kept.refl wC).drew
      have krz := RowsKept.of_kept (X := wo.heap.size) hdz
      replace hBE := hBE.kept hdz
      replace hB0 := hB0.kept hdz
      replace hk0 := hk0.trans hdz
      replace hG := hG.kept krz.ints
      replace hD := hD.kept krz
      replace hR := hR.keep hdz
      replace hown := own_keep hown hdz
      clear krz
      refine wp_region_held_drew (S := fun w' => w'.cell? ⟨E, 0, none⟩ = some (.int .i64 st) ∧ w'.cell? ⟨E, 1, none⟩ = some (.slice A1 n1 c1) ∧ w'.cell? ⟨E, 2, none⟩ = some (.slice A2 n2 c2)) (by kernel_rfl) ⟨hBE.cell 0, hBE.cell 1, hBE.cell 2⟩ (fun hHeld => ?_)
      clear hdz
      (refine take_val (i := 0) (v := .agg #[.int .i64 st, .slice A1 n1 c1, .slice A2 n2 c2]) rfl rfl (by kernel_rfl) (by kernel_rfl) (by kernel_rfl) (fun _ _ _ h => h) rfl (by intro wq hq; (try go_split_ands); go_simp; try with_reducible rfl) (hHeld) ?_; simp only [List.setIfInBounds_toArray, List.set_cons_zero, List.set_cons_succ])
      (refine take_val (i := 1) (v := .pointer (some ⟨E, 0, none⟩)) rfl rfl (by kernel_rfl) (by kernel_rfl) (by kernel_rfl) (fun _ _ _ h => h) rfl (by intro wq hq; (try go_split_ands); go_simp; try with_reducible rfl) (hHeld) ?_; simp only [List.setIfInBounds_toArray, List.set_cons_zero, List.set_cons_succ])
      (refine take_val (i := 2) (v := .int .i64 st) rfl rfl (by kernel_rfl) (by kernel_rfl) (by kernel_rfl) (fun _ _ _ h => h) rfl (by intro wq hq; (try go_split_ands); go_simp; try with_reducible rfl) (hHeld) ?_; simp only [List.setIfInBounds_toArray, List.set_cons_zero, List.set_cons_succ])
      (refine take_val (i := 3) (v := .slice (some ⟨wB.heap.size, 0, none⟩) 41 41) rfl rfl (by kernel_rfl) (by kernel_rfl) (by kernel_rfl) (fun _ _ _ h => h) rfl (by intro wq hq; (try go_split_ands); go_simp; try with_reducible rfl) (hHeld) ?_; simp only [List.setIfInBounds_toArray, List.set_cons_zero, List.set_cons_succ])
      generalize wC.drew = wZ at *
      have ce := hB0.cell
      have fe := hB0.frozen
      have b1 := hB0.set_ 0 (.int .i64 st)
      have b2 := b1.set_ 1 (.slice A1 n1 c1)
      have k1 := RowsKept.set (X := wo.heap.size) hB0 (by decide) (by decide) 0 (.int .i64 st)
      have k2 := RowsKept.set (X := wo.heap.size) b1 (by decide) (by decide) 1 (.slice A1 n1 c1)
      have k3 := RowsKept.set (X := wo.heap.size) b2 (by decide) (by decide) 2 (.slice A2 n2 c2)
      have kk := (k1.trans k2).trans k3
      have hG2 := hG.kept kk.ints
      have hD2 := hD.kept kk
      have hOw2 := kk.ints _ _ _ _ hown
      have hle := Nat.le_refl w.heap.size
      have hkF := ((hk0.setCell (p := ⟨w.heap.size, 0, none⟩) hle (.int .i64 st)).setCell (p := ⟨w.heap.size, 1, none⟩) hle (.slice A1 n1 c1)).setCell (p := ⟨w.heap.size, 2, none⟩) hle (.slice A2 n2 c2)
      have hne : E ≠ w.heap.size := by omega
      have hBF := ((hBE.far (p := ⟨w.heap.size, 0, none⟩) hne (.int .i64 st)).far (p := ⟨w.heap.size, 1, none⟩) hne (.slice A1 n1 c1)).far (p := ⟨w.heap.size, 2, none⟩) hne (.slice A2 n2 c2)
      clear hB0 hBE b1 b2 k1 k2 k3 kk hG hD hk0
      have hSF := (⟨hBF.cell 0, hBF.cell 1, hBF.cell 2⟩ : _ ∧ _ ∧ _)
      (refine wpAnyH_ready (rs := [4]) (by kernel_rfl) (by simp) ?_; refine AllReadyH.cons rfl (fun K hK => ?_) AllReadyH.nil; go_simp)
      (refine hK.out _ _ (hSF) (fun _ => ?_); clear hK K; try simp only [Act.put, List.setIfInBounds_toArray, List.set_cons_zero, List.set_cons_succ])
      (refine take_val (i := 5) (v := .int .i64 st) rfl rfl (by kernel_rfl) (by kernel_rfl) (by kernel_rfl) (fun _ _ _ h => h) rfl (by intro wq hq; (try go_split_ands); go_simp; try with_reducible rfl) (hSF) ?_; simp only [List.setIfInBounds_toArray, List.set_cons_zero, List.set_cons_succ])
      (refine take_val (i := 6) (v := .slice (some ⟨wB.heap.size, 0, none⟩) 41 41) rfl rfl (by kernel_rfl) (by kernel_rfl) (by kernel_rfl) (fun _ _ _ h => h) rfl (by intro wq hq; (try go_split_ands); go_simp; try with_reducible rfl) (hSF) ?_; simp only [List.setIfInBounds_toArray, List.set_cons_zero, List.set_cons_succ])
      refine wpAnyH_done (by kernel_rfl) ?_ _
      go_wp2_with fail
      refine bodyPost_ret (v := .tuple #[.agg #[.int .i64 st, .slice A1 n1 c1, .slice A2 n2 c2], .int .i64 st, .slice (some ⟨wB.heap.size, 0, none⟩) 41 41]) (by simp [results, Try.results30, go_sem, ce]) rfl ?_
      obtain ⟨tt, hTT, _⟩ := TaskQ.task ⟨st, A1, n1, c1, A2, n2, c2, rfl, hst, hG2, hD2, hn2⟩
      exact ⟨_, rfl, ⟨_, tt, _, _, _, _, _, rfl, hTT, own_ints (by omega) hOw2 hin5, by omega, own_lies hOw2⟩, hkF⟩

end Go.Proofs.Ytjmpfemlihjibaa
