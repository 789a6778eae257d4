/- Walks: the draws of a task and a plan (FnPlanOk, FnPlanRun). No condition. -/
import Derived.Test.YtjmpfemlihjibaaD15
import Derived.Test.YtjmpfemlihjibaaG22
namespace Go.Proofs.Ytjmpfemlihjibaa
open Go.RowKit

/-- a task and a plan that a draw made -/
def DrawnP (v : Value) (w : World) : Prop := ∃ tv t A m c l, v = .tuple #[tv, .slice A m c] ∧ TaskV w tv t ∧ Ints w A m l
/-- a task, a state and a plan that a draw made -/
def DrawnR (v : Value) (w : World) : Prop := ∃ tv t s A m c l, v = .tuple #[tv, .int .i64 s, .slice A m c] ∧ TaskV w tv t ∧ Ints w A m l

set_option maxHeartbeats 1000000 in
set_option maxRecDepth 100000 in
theorem c_drawPlanOk (A : Option Addr) (n c : Nat) (w : World) (h : BytesV w A n ∧ n ≤ c ∧ c ≤ maxLen) : Calls Try.prog 27 #[.slice A n c] w (RetS DrawnP w) := by
  have hk0 := (Kept.refl w).alloc (.cells #[.int .i64 0, .slice none 0 0, .slice none 0 0] 26)
  have hB0 := Blk.new w 26 #[.int .i64 0, .slice none 0 0, .slice none 0 0]
  have hb0 := h.1.keep hk0
  go_enter Try.func27, Try.ntmps27
  go_wp2_with fail
  refine (c_l20Open A n c _ hb0 h.2.1 h.2.2).mono ?_; rintro e wo ⟨v, rfl, ⟨R, rfl, hRge, hR⟩, hk2⟩
  simp only [World.size_alloc] at hRge
  replace hk0 := hk0.trans hk2
  replace hB0 := hB0.kept hk2
  clear hk2 hb0
  have hRlt := hR.lt
  go_wp2_with fail
  refine (c_l20Task R 12 0 _ hR (by omega) (by omega) (by omega)).mono ?_; rintro e w3 ⟨v, p3, rfl, hR3, hp1, hp2, hB, st, A1, n1, c1, A2, n2, c2, rfl, hst, hG, hD, hn2⟩
  replace hk0 := hB.kept hk0 (by omega)
  replace hB0 := hB.blk hB0 (.inl (by omega))
  have hsz3 := hB.size
  clear hB hR
  obtain ⟨t, ht8, hTW⟩ := TaskQ.task2 ⟨st, A1, n1, c1, A2, n2, c2, rfl, hst, hG, hD, hn2⟩
  have hkE := (Kept.refl w3).alloc (.cells #[.int .i64 st, .slice A1 n1 c1, .slice A2 n2 c2] 26)
  have hBE := Blk.new w3 26 #[.int .i64 st, .slice A1 n1 c1, .slice A2 n2 c2]
  have krA := RowsKept.of_kept (X := wo.heap.size) hkE
  replace hG := hG.kept krA.ints
  replace hD := hD.kept krA
  replace hk0 := hk0.trans hkE
  replace hB0 := hB0.kept hkE
  have hR := hR3.keep hkE
  clear hkE hR3
  obtain ⟨wE, HWE⟩ : ∃ wE, Hid (w3.alloc (.cells #[.int .i64 st, .slice A1 n1 c1, .slice A2 n2 c2] 26) = wE) := ⟨_, rfl⟩
  obtain ⟨E, HE⟩ : ∃ E, Hid (w3.heap.size = E) := ⟨_, rfl⟩
  have hEge : wo.heap.size ≤ w3.heap.size := hsz3
  have hXE : wE.heap.size = E + 1 := by rw [← HWE.out, ← HE.out]; simp
  go_wp2_with fail
  rw [HE.out] at hEge
  rw [HWE.out, HE.out] at hBE ⊢
  rw [HWE.out] at hG hD hk0 hB0 hR krA
  have hdz := (Kept.refl wE).drew
  have krz := RowsKept.of_kept (X := wo.heap.size) hdz
  replace hBE := hBE.kept hdz
  replace hB0 := hB0.kept hdz
  replace hk0 := hk0.trans hdz
  replace hG := hG.kept krz.ints
  replace hD := hD.kept krz
  replace krA := krA.trans krz
  replace hR := hR.keep hdz
  clear krz
  refine wp_region_held_drew (S := fun w' => w'.cell? ⟨E, 0, none⟩ = some (.int .i64 st) ∧ w'.cell? ⟨E, 1, none⟩ = some (.slice A1 n1 c1) ∧ w'.cell? ⟨E, 2, none⟩ = some (.slice A2 n2 c2)) (by kernel_rfl) ⟨hBE.cell 0, hBE.cell 1, hBE.cell 2⟩ (fun hHeld => ?_)
  clear hdz
  (refine take_val (i := 0) (v := .agg #[.int .i64 st, .slice A1 n1 c1, .slice A2 n2 c2]) rfl rfl (by kernel_rfl) (by kernel_rfl) (by kernel_rfl) (fun _ _ _ h => h) rfl (by intro wq hq; (try go_split_ands); go_simp; try with_reducible rfl) (hHeld) ?_; simp only [List.setIfInBounds_toArray, List.set_cons_zero, List.set_cons_succ])
  (refine take_val (i := 1) (v := .pointer (some ⟨R, 0, none⟩)) rfl rfl (by kernel_rfl) (by kernel_rfl) (by kernel_rfl) (fun _ _ _ h => h) rfl (by intro wq hq; (try go_split_ands); go_simp; try with_reducible rfl) (hHeld) ?_; simp only [List.setIfInBounds_toArray, List.set_cons_zero, List.set_cons_succ])
  (refine take_val (i := 2) (v := .agg #[.int .i64 st, .slice A1 n1 c1, .slice A2 n2 c2]) rfl rfl (by kernel_rfl) (by kernel_rfl) (by kernel_rfl) (fun _ _ _ h => h) rfl (by intro wq hq; (try go_split_ands); go_simp; try with_reducible rfl) (hHeld) ?_; simp only [List.setIfInBounds_toArray, List.set_cons_zero, List.set_cons_succ])
  (refine wpAnyH_ready (rs := [3]) (by kernel_rfl) (by simp) ?_; refine AllReadyH.cons rfl (fun K hK => ?_) AllReadyH.nil; go_simp)
  refine (c_l20Plan R wo.heap.size p3 _ t _ hR (by omega) (by omega) ht8 (fun w' hk => hTW w' (krA.trans hk))).mono ?_; rintro e wA ⟨v, pA, rfl, hRn, hq1, hq2, hbn, A5, m5, c5, l5, rfl, hm5, hown, hin5⟩
  replace hBE := hbn.blk hBE (.inr (by omega))
  replace hk0 := hbn.kept hk0 (by omega)
  replace hB0 := hbn.blk hB0 (.inl (by omega))
  replace hG := hG.kept (RowsKept.of_but (X := wo.heap.size) hbn hRlt).ints
  replace hD := hD.kept (RowsKept.of_but (X := wo.heap.size) hbn hRlt)
  replace hR := hRn
  replace hown := ownsRow_mono (X := wo.heap.size) hown (by show wo.heap.size ≤ wE.drew.heap.size; simp; omega)
  clear hbn hRn hHeld
  have hSx : wA.cell? ⟨E, 0, none⟩ = some (.int .i64 st) ∧ wA.cell? ⟨E, 1, none⟩ = some (.slice A1 n1 c1) ∧ wA.cell? ⟨E, 2, none⟩ = some (.slice A2 n2 c2) := ⟨hBE.cell 0, hBE.cell 1, hBE.cell 2⟩
  (refine hK.out _ _ (hSx) (fun _ => ?_); clear hK K; try simp only [Act.put, List.setIfInBounds_toArray, List.set_cons_zero, List.set_cons_succ])
  have ce := hB0.cell
  have fe := hB0.frozen
  have b1 := hB0.set_ 0 (.int .i64 st)
  have b2 := b1.set_ 1 (.slice A1 n1 c1)
  have k1 := RowsKept.set (X := wo.heap.size) hB0 (by decide) (by decide) 0 (.int .i64 st)
  have k2 := RowsKept.set (X := wo.heap.size) b1 (by decide) (by decide) 1 (.slice A1 n1 c1)
  have k3 := RowsKept.set (X := wo.heap.size) b2 (by decide) (by decide) 2 (.slice A2 n2 c2)
  have kk := (k1.trans k2).trans k3
  have hG2 := hG.kept kk.ints
  have hD2 := hD.kept kk
  have hOw2 := kk.ints _ _ _ _ hown
  have hle := Nat.le_refl w.heap.size
  have hkF := ((hk0.setCell (p := ⟨w.heap.size, 0, none⟩) hle (.int .i64 st)).setCell (p := ⟨w.heap.size, 1, none⟩) hle (.slice A1 n1 c1)).setCell (p := ⟨w.heap.size, 2, none⟩) hle (.slice A2 n2 c2)
  have hne : E ≠ w.heap.size := by omega
  have hBF := ((hBE.far (p := ⟨w.heap.size, 0, none⟩) hne (.int .i64 st)).far (p := ⟨w.heap.size, 1, none⟩) hne (.slice A1 n1 c1)).far (p := ⟨w.heap.size, 2, none⟩) hne (.slice A2 n2 c2)
  clear hB0 hBE b1 b2 k1 k2 k3 kk hG hD hk0
  have hSF := (⟨hBF.cell 0, hBF.cell 1, hBF.cell 2⟩ : _ ∧ _ ∧ _)
  (refine wpAnyH_ready (rs := [4]) (by kernel_rfl) (by simp) ?_; refine AllReadyH.cons rfl (fun K hK => ?_) AllReadyH.nil; go_simp)
  (refine hK.out _ _ (hSF) (fun _ => ?_); clear hK K; try simp only [Act.put, List.setIfInBounds_toArray, List.set_cons_zero, List.set_cons_succ])
  (refine take_val (i := 5) (v := .slice A5 m5 c5) rfl rfl (by kernel_rfl) (by kernel_rfl) (by kernel_rfl) (fun _ _ _ h => h) rfl (by intro wq hq; (try go_split_ands); go_simp; try with_reducible rfl) (hSF) ?_; simp only [List.setIfInBounds_toArray, List.set_cons_zero, List.set_cons_succ])
  refine wpAnyH_done (by kernel_rfl) ?_ _
  go_wp2_with fail
  refine bodyPost_ret (v := .tuple #[.agg #[.int .i64 st, .slice A1 n1 c1, .slice A2 n2 c2], .slice A5 m5 c5]) (by simp [results, Try.results27, go_sem, ce]) rfl ?_
  obtain ⟨tt, hTT, _⟩ := TaskQ.task ⟨st, A1, n1, c1, A2, n2, c2, rfl, hst, hG2, hD2, hn2⟩
  exact ⟨_, rfl, ⟨_, tt, _, _, _, _, rfl, hTT, own_ints (by omega) hOw2 hin5⟩, hkF⟩

end Go.Proofs.Ytjmpfemlihjibaa
