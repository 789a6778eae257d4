/- Walks: the draws of a task and a set of facts (FnSumOk, FnSumStates). No condition. -/
import Derived.Test.YtjmpfemlihjibaaDoorD8
import Derived.Test.YtjmpfemlihjibaaDoorA3
import Derived.Test.YtjmpfemlihjibaaDoorR7
import Derived.Test.YtjmpfemlihjibaaDoorTake
namespace Go.Proofs.YtjmpfemlihjibaaDoor
open Go.RowKit

/-- a task of the draw's own rows, and a set of facts, that a draw made -/
def DrawnS (X : Nat) (v : Value) (w : World) : Prop := ∃ tv x, v = .tuple #[tv, .int .i64 x] ∧ TaskQ X tv w ∧ -1000 ≤ x ∧ x ≤ 1000
theorem sumForN_bd (t : Sp.Task) : -1 ≤ Sp.sumForN t ∧ Sp.sumForN t ≤ 31 := by
  unfold Sp.sumForN Sp.sumFor
  cases hf : (List.range 32).find? (fun f => Sp.sumOk t (f : Nat)) with
  | none => simp
  | some s =>
    have := List.mem_range.1 (List.mem_of_find?_eq_some hf)
    simp only
    omega

theorem quo39 {x : Int} (h0 : 0 ≤ x) (h1 : x < 40) : Int.tdiv x 39 = 0 ∨ Int.tdiv x 39 = 1 := by
  rw [Int.tdiv_eq_ediv_of_nonneg h0]
  omega

set_option maxHeartbeats 1000000 in
set_option maxRecDepth 100000 in
theorem c_drawSumOk (A : Option Addr) (n c : Nat) (w : World) (h : BytesV w A n ∧ n ≤ c ∧ c ≤ maxLen) : Calls Tryd.prog 35 #[.slice A n c] w (RetS (DrawnS w.heap.size) w) := by
  have hk0 := (Kept.refl w).alloc (.cells #[.int .i64 0, .slice none 0 0, .slice none 0 0] 30)
  have hB0 := Blk.new w 30 #[.int .i64 0, .slice none 0 0, .slice none 0 0]
  have hb0 := h.1.keep hk0
  go_enter Tryd.func35, Tryd.ntmps35
  go_wp2_with fail
  refine (c_l20Open A n c _ hb0 h.2.1 h.2.2).mono ?_; rintro e w2 ⟨v, rfl, ⟨R, rfl, hRge, hR⟩, hk2⟩
  simp only [World.size_alloc] at hRge
  replace hk0 := hk0.trans hk2
  replace hB0 := hB0.kept hk2
  clear hk2 hb0
  have hRlt := hR.lt
  go_wp2_with fail
  refine (c_l20Hard R 12 0 _ hR (by omega) (by omega) (by omega)).mono ?_; rintro e w3 ⟨v, p3, rfl, hR3, hp1, hp2, hB, st, A1, n1, c1, A2, n2, c2, rfl, hst, hG, hD, hn2⟩
  replace hk0 := hB.kept hk0 (by omega)
  replace hB0 := hB.blk hB0 (.inl (by omega))
  have hsz3 := hB.size
  clear hB hR
  obtain ⟨t, hTV, _⟩ := TaskQ.task ⟨st, A1, n1, c1, A2, n2, c2, rfl, hst, hG, hD, hn2⟩
  have hkE := (Kept.refl w3).alloc (.cells #[.int .i64 st, .slice A1 n1 c1, .slice A2 n2 c2] 30)
  have hBE := Blk.new w3 30 #[.int .i64 st, .slice A1 n1 c1, .slice A2 n2 c2]
  have krE := RowsKept.of_kept (X := w2.heap.size) hkE
  replace hG := hG.kept krE.ints
  replace hD := hD.kept krE
  replace hk0 := hk0.trans hkE
  replace hB0 := hB0.kept hkE
  replace hR3 := hR3.keep hkE
  have hT := hTV.keep hkE
  clear hTV hkE krE
  go_wp2_with fail
  refine (c_sSumFor _ t _ hT).mono ?_; rintro e w4 ⟨rfl, hk4⟩
  have kr4 := RowsKept.of_kept (X := w2.heap.size) hk4
  replace hG := hG.kept kr4.ints
  replace hD := hD.kept kr4
  replace hk0 := hk0.trans hk4
  replace hB0 := hB0.kept hk4
  replace hBE := hBE.kept hk4
  have hR := hR3.keep hk4
  obtain ⟨hN0, hN1⟩ := sumForN_bd t
  obtain ⟨N, hN⟩ : ∃ N, Sp.sumForN t = N := ⟨_, rfl⟩
  obtain ⟨b, hb⟩ : ∃ b, Sp.sumForB t = b := ⟨_, rfl⟩
  rw [hN] at hN0 hN1 ⊢
  rw [hb]
  obtain ⟨E, HE⟩ : ∃ E, Hid (w3.heap.size = E) := ⟨_, rfl⟩
  have hEge : w2.heap.size ≤ w3.heap.size := hsz3
  rw [HE.out] at hBE hEge ⊢
  clear kr4 hk4 hT hR3 hN hb
  cases b
  · go_wp2_with fail
    have hdz := (Kept.refl w4).drew
    have krz := RowsKept.of_kept (X := w2.heap.size) hdz
    replace hBE := hBE.kept hdz
    replace hB0 := hB0.kept hdz
    replace hk0 := hk0.trans hdz
    replace hG := hG.kept krz.ints
    replace hD := hD.kept krz
    replace hR := hR.keep hdz
    clear krz
    refine wp_region_held_drew (S := fun w' => w'.cell? ⟨E, 0, none⟩ = some (.int .i64 st) ∧ w'.cell? ⟨E, 1, none⟩ = some (.slice A1 n1 c1) ∧ w'.cell? ⟨E, 2, none⟩ = some (.slice A2 n2 c2)) (by kernel_rfl) ⟨hBE.cell 0, hBE.cell 1, hBE.cell 2⟩ (fun hHeld => ?_)
    (refine take_val (i := 0) (v := .agg #[.int .i64 st, .slice A1 n1 c1, .slice A2 n2 c2]) rfl rfl (by kernel_rfl) (by kernel_rfl) (by kernel_rfl) (fun _ _ _ h => h) rfl (by intro wq hq; (try go_split_ands); go_simp; try with_reducible rfl) (hHeld) ?_; simp only [List.setIfInBounds_toArray, List.set_cons_zero, List.set_cons_succ])
    (refine take_val (i := 1) (v := .pointer (some ⟨R, 0, none⟩)) rfl rfl (by kernel_rfl) (by kernel_rfl) (by kernel_rfl) (fun _ _ _ h => h) rfl (by intro wq hq; (try go_split_ands); go_simp; try with_reducible rfl) (hHeld) ?_; simp only [List.setIfInBounds_toArray, List.set_cons_zero, List.set_cons_succ])
    (refine take_val (i := 3) (v := .pointer (some ⟨R, 0, none⟩)) rfl rfl (by kernel_rfl) (by kernel_rfl) (by kernel_rfl) (fun _ _ _ h => h) rfl (by intro wq hq; (try go_split_ands); go_simp; try with_reducible rfl) (hHeld) ?_; simp only [List.setIfInBounds_toArray, List.set_cons_zero, List.set_cons_succ])
    (refine take_val (i := 8) (v := .pointer (some ⟨R, 0, none⟩)) rfl rfl (by kernel_rfl) (by kernel_rfl) (by kernel_rfl) (fun _ _ _ h => h) rfl (by intro wq hq; (try go_split_ands); go_simp; try with_reducible rfl) (hHeld) ?_; simp only [List.setIfInBounds_toArray, List.set_cons_zero, List.set_cons_succ])
    clear hdz
    (refine wpAnyH_ready (rs := [2]) (by kernel_rfl) (by simp) ?_; refine AllReadyH.cons rfl (fun K hK => ?_) AllReadyH.nil; go_simp)
    refine (c_pick R 32 p3 _ hR (by omega) (by omega)).mono ?_; rintro e wA ⟨v, pA, rfl, hRn, hq1xa, hq2xa, hbn, xa, rfl, xa0, xa1⟩
    replace xa1 := xa1 (by omega)
    replace hBE := hbn.blk hBE (.inr (by omega))
    replace hk0 := hbn.kept hk0 (by omega)
    replace hB0 := hbn.blk hB0 (.inl (by omega))
    replace hG := hG.kept (RowsKept.of_but (X := w2.heap.size) hbn hRlt).ints
    replace hD := hD.kept (RowsKept.of_but (X := w2.heap.size) hbn hRlt)
    replace hR := hRn
    clear hbn hRn
    have hSxa : wA.cell? ⟨E, 0, none⟩ = some (.int .i64 st) ∧ wA.cell? ⟨E, 1, none⟩ = some (.slice A1 n1 c1) ∧ wA.cell? ⟨E, 2, none⟩ = some (.slice A2 n2 c2) := ⟨hBE.cell 0, hBE.cell 1, hBE.cell 2⟩
    (refine hK.out _ _ (hSxa) (fun _ => ?_); clear hK K; try simp only [Act.put, List.setIfInBounds_toArray, List.set_cons_zero, List.set_cons_succ])
    (refine wpAnyH_ready (rs := [4]) (by kernel_rfl) (by simp) ?_; refine AllReadyH.cons rfl (fun K hK => ?_) AllReadyH.nil; go_simp)
    refine (c_pick R 40 pA _ hR (by omega) (by omega)).mono ?_; rintro e wB ⟨v, pB, rfl, hRn, hq1xb, hq2xb, hbn, xb, rfl, xb0, xb1⟩
    replace xb1 := xb1 (by omega)
    replace hBE := hbn.blk hBE (.inr (by omega))
    replace hk0 := hbn.kept hk0 (by omega)
    replace hB0 := hbn.blk hB0 (.inl (by omega))
    replace hG := hG.kept (RowsKept.of_but (X := w2.heap.size) hbn hRlt).ints
    replace hD := hD.kept (RowsKept.of_but (X := w2.heap.size) hbn hRlt)
    replace hR := hRn
    clear hbn hRn
    have hSxb : wB.cell? ⟨E, 0, none⟩ = some (.int .i64 st) ∧ wB.cell? ⟨E, 1, none⟩ = some (.slice A1 n1 c1) ∧ wB.cell? ⟨E, 2, none⟩ = some (.slice A2 n2 c2) := ⟨hBE.cell 0, hBE.cell 1, hBE.cell 2⟩
    (refine hK.out _ _ (hSxb) (fun _ => ?_); clear hK K; try simp only [Act.put, List.setIfInBounds_toArray, List.set_cons_zero, List.set_cons_succ])
    obtain ⟨q1, hq1⟩ : ∃ q1, Int.tdiv xb 39 = q1 := ⟨_, rfl⟩
    have hq1' := quo39 xb0 xb1
    rw [hq1] at hq1'
    have hw1 : IntKind.i64.wrap q1 = q1 := by rw [IntKind.wrap_i64]; omega
    have hm1 : IntKind.i64.wrap (q1 * 32) = q1 * 32 := by rw [IntKind.wrap_i64]; omega
    have ha1 : IntKind.i64.wrap (xa + q1 * 32) = xa + q1 * 32 := by rw [IntKind.wrap_i64]; omega
    (refine take_val (i := 5) (v := .int .i64 q1) rfl rfl (by kernel_rfl) (by kernel_rfl) (by kernel_rfl) (fun _ _ _ h => h) rfl (by intro wq hq; (try go_split_ands); go_simp; try with_reducible rfl) (hSxb) ?_; simp only [List.setIfInBounds_toArray, List.set_cons_zero, List.set_cons_succ])
    (refine take_val (i := 6) (v := .int .i64 (q1 * 32)) rfl rfl (by kernel_rfl) (by kernel_rfl) (by kernel_rfl) (fun _ _ _ h => h) rfl (by intro wq hq; (try go_split_ands); go_simp; try with_reducible rfl) (hSxb) ?_; simp only [List.setIfInBounds_toArray, List.set_cons_zero, List.set_cons_succ])
    (refine take_val (i := 7) (v := .int .i64 (xa + q1 * 32)) rfl rfl (by kernel_rfl) (by kernel_rfl) (by kernel_rfl) (fun _ _ _ h => h) rfl (by intro wq hq; (try go_split_ands); go_simp; try with_reducible rfl) (hSxb) ?_; simp only [List.setIfInBounds_toArray, List.set_cons_zero, List.set_cons_succ])
    (refine wpAnyH_ready (rs := [9]) (by kernel_rfl) (by simp) ?_; refine AllReadyH.cons rfl (fun K hK => ?_) AllReadyH.nil; go_simp)
    refine (c_pick R 40 pB _ hR (by omega) (by omega)).mono ?_; rintro e wC ⟨v, pC, rfl, hRn, hq1xc, hq2xc, hbn, xc, rfl, xc0, xc1⟩
    replace xc1 := xc1 (by omega)
    replace hBE := hbn.blk hBE (.inr (by omega))
    replace hk0 := hbn.kept hk0 (by omega)
    replace hB0 := hbn.blk hB0 (.inl (by omega))
    replace hG := hG.kept (RowsKept.of_but (X := w2.heap.size) hbn hRlt).ints
    replace hD := hD.kept (RowsKept.of_but (X := w2.heap.size) hbn hRlt)
    replace hR := hRn
    clear hbn hRn
    have hSxc : wC.cell? ⟨E, 0, none⟩ = some (.int .i64 st) ∧ wC.cell? ⟨E, 1, none⟩ = some (.slice A1 n1 c1) ∧ wC.cell? ⟨E, 2, none⟩ = some (.slice A2 n2 c2) := ⟨hBE.cell 0, hBE.cell 1, hBE.cell 2⟩
    (refine hK.out _ _ (hSxc) (fun _ => ?_); clear hK K; try simp only [Act.put, List.setIfInBounds_toArray, List.set_cons_zero, List.set_cons_succ])
    obtain ⟨q2, hq2⟩ : ∃ q2, Int.tdiv xc 39 = q2 := ⟨_, rfl⟩
    have hq2' := quo39 xc0 xc1
    rw [hq2] at hq2'
    have hw2 : IntKind.i64.wrap q2 = q2 := by rw [IntKind.wrap_i64]; omega
    have hm2 : IntKind.i64.wrap (q2 * 40) = q2 * 40 := by rw [IntKind.wrap_i64]; omega
    have ha2 : IntKind.i64.wrap (xa + q1 * 32 - q2 * 40) = xa + q1 * 32 - q2 * 40 := by rw [IntKind.wrap_i64]; omega
    (refine take_val (i := 10) (v := .int .i64 q2) rfl rfl (by kernel_rfl) (by kernel_rfl) (by kernel_rfl) (fun _ _ _ h => h) rfl (by intro wq hq; (try go_split_ands); go_simp; try with_reducible rfl) (hSxc) ?_; simp only [List.setIfInBounds_toArray, List.set_cons_zero, List.set_cons_succ])
    (refine take_val (i := 11) (v := .int .i64 (q2 * 40)) rfl rfl (by kernel_rfl) (by kernel_rfl) (by kernel_rfl) (fun _ _ _ h => h) rfl (by intro wq hq; (try go_split_ands); go_simp; try with_reducible rfl) (hSxc) ?_; simp only [List.setIfInBounds_toArray, List.set_cons_zero, List.set_cons_succ])
    (refine take_val (i := 12) (v := .int .i64 (xa + q1 * 32 - q2 * 40)) rfl rfl (by kernel_rfl) (by kernel_rfl) (by kernel_rfl) (fun _ _ _ h => h) rfl (by intro wq hq; (try go_split_ands); go_simp; try with_reducible rfl) (hSxc) ?_; simp only [List.setIfInBounds_toArray, List.set_cons_zero, List.set_cons_succ])
    have ce := hB0.cell
    have fe := hB0.frozen
    have b1 := hB0.set_ 0 (.int .i64 st)
    have b2 := b1.set_ 1 (.slice A1 n1 c1)
    have k1 := RowsKept.set (X := w2.heap.size) hB0 (by decide) (by decide) 0 (.int .i64 st)
    have k2 := RowsKept.set (X := w2.heap.size) b1 (by decide) (by decide) 1 (.slice A1 n1 c1)
    have k3 := RowsKept.set (X := w2.heap.size) b2 (by decide) (by decide) 2 (.slice A2 n2 c2)
    have kk := (k1.trans k2).trans k3
    have hG2 := hG.kept kk.ints
    have hD2 := hD.kept kk
    have hle := Nat.le_refl w.heap.size
    have hkF := ((hk0.setCell (p := ⟨w.heap.size, 0, none⟩) hle (.int .i64 st)).setCell (p := ⟨w.heap.size, 1, none⟩) hle (.slice A1 n1 c1)).setCell (p := ⟨w.heap.size, 2, none⟩) hle (.slice A2 n2 c2)
    have hne : E ≠ w.heap.size := by omega
    have hBF := ((hBE.far (p := ⟨w.heap.size, 0, none⟩) hne (.int .i64 st)).far (p := ⟨w.heap.size, 1, none⟩) hne (.slice A1 n1 c1)).far (p := ⟨w.heap.size, 2, none⟩) hne (.slice A2 n2 c2)
    clear hB0 hBE b1 b2 k1 k2 k3 kk hG hD hk0
    have hSF := (⟨hBF.cell 0, hBF.cell 1, hBF.cell 2⟩ : _ ∧ _ ∧ _)
    (refine wpAnyH_ready (rs := [13]) (by kernel_rfl) (by simp) ?_; refine AllReadyH.cons rfl (fun K hK => ?_) AllReadyH.nil; go_simp)
    (refine hK.out _ _ (hSF) (fun _ => ?_); clear hK K; try simp only [Act.put, List.setIfInBounds_toArray, List.set_cons_zero, List.set_cons_succ])
    (refine take_val (i := 14) (v := .int .i64 (xa + q1 * 32 - q2 * 40)) rfl rfl (by kernel_rfl) (by kernel_rfl) (by kernel_rfl) (fun _ _ _ h => h) rfl (by intro wq hq; (try go_split_ands); go_simp; try with_reducible rfl) (hSF) ?_; simp only [List.setIfInBounds_toArray, List.set_cons_zero, List.set_cons_succ])
    refine wpAnyH_done (by kernel_rfl) ?_ _
    go_wp2_with fail
    refine bodyPost_ret (v := .tuple #[.agg #[.int .i64 st, .slice A1 n1 c1, .slice A2 n2 c2], .int .i64 (xa + q1 * 32 - q2 * 40)]) (by simp [results, Tryd.results35, go_sem, ce]) rfl ?_
    exact ⟨_, rfl, ⟨_, _, rfl, ⟨st, A1, n1, c1, A2, n2, c2, rfl, hst, hG2.mono (by omega), hD2.mono (by omega), hn2⟩, by omega, by omega⟩, hkF⟩
  · go_wp2_with fail
    refine (c_pick R 2 p3 _ hR (by omega) (by omega)).mono ?_; rintro e w5 ⟨v, p4, rfl, hR5, hp3, hp4, hb5, x, rfl, hx0, hx1⟩
    replace hBE := hb5.blk hBE (.inr (by omega))
    replace hk0 := hb5.kept hk0 (by omega)
    replace hB0 := hb5.blk hB0 (.inl (by omega))
    have kr5 := RowsKept.of_but (X := w2.heap.size) hb5 hRlt
    replace hG := hG.kept kr5.ints
    replace hD := hD.kept kr5
    clear hR kr5 hb5
    by_cases hx : x = 0
    · subst hx
      have ce := hB0.cell
      have fe := hB0.frozen
      have cb := hBE.cell
      have b1 := hB0.set_ 0 (.int .i64 st)
      have b2 := b1.set_ 1 (.slice A1 n1 c1)
      have k1 := RowsKept.set (X := w2.heap.size) hB0 (by decide) (by decide) 0 (.int .i64 st)
      have k2 := RowsKept.set (X := w2.heap.size) b1 (by decide) (by decide) 1 (.slice A1 n1 c1)
      have k3 := RowsKept.set (X := w2.heap.size) b2 (by decide) (by decide) 2 (.slice A2 n2 c2)
      have kk := (k1.trans k2).trans k3
      have hG2 := hG.kept kk.ints
      have hD2 := hD.kept kk
      have hle := Nat.le_refl w.heap.size
      have hkF := ((hk0.setCell (p := ⟨w.heap.size, 0, none⟩) hle (.int .i64 st)).setCell (p := ⟨w.heap.size, 1, none⟩) hle (.slice A1 n1 c1)).setCell (p := ⟨w.heap.size, 2, none⟩) hle (.slice A2 n2 c2)
      clear hB0 hBE b1 b2 k1 k2 k3 kk hG hD hk0
      go_wp2_with fail
      refine bodyPost_ret (v := .tuple #[.agg #[.int .i64 st, .slice A1 n1 c1, .slice A2 n2 c2], .int .i64 (N)]) (by simp [results, Tryd.results35, go_sem, ce]) rfl ?_
      exact ⟨_, rfl, ⟨_, _, rfl, ⟨st, A1, n1, c1, A2, n2, c2, rfl, hst, hG2.mono (by omega), hD2.mono (by omega), hn2⟩, by omega, by omega⟩, hkF⟩
    · have hq0 : (x == 0) = false := beq_eq_false_iff_ne.2 hx
      have hR := hR5
      clear hR5 hx
      go_wp2_with fail
      have hdz := (Kept.refl w5).drew
      have krz := RowsKept.of_kept (X := w2.heap.size) hdz
      replace hBE := hBE.kept hdz
      replace hB0 := hB0.kept hdz
      replace hk0 := hk0.trans hdz
      replace hG := hG.kept krz.ints
      replace hD := hD.kept krz
      replace hR := hR.keep hdz
      clear krz
      refine wp_region_held_drew (S := fun w' => w'.cell? ⟨E, 0, none⟩ = some (.int .i64 st) ∧ w'.cell? ⟨E, 1, none⟩ = some (.slice A1 n1 c1) ∧ w'.cell? ⟨E, 2, none⟩ = some (.slice A2 n2 c2)) (by kernel_rfl) ⟨hBE.cell 0, hBE.cell 1, hBE.cell 2⟩ (fun hHeld => ?_)
      (refine take_val (i := 0) (v := .agg #[.int .i64 st, .slice A1 n1 c1, .slice A2 n2 c2]) rfl rfl (by kernel_rfl) (by kernel_rfl) (by kernel_rfl) (fun _ _ _ h => h) rfl (by intro wq hq; (try go_split_ands); go_simp; try with_reducible rfl) (hHeld) ?_; simp only [List.setIfInBounds_toArray, List.set_cons_zero, List.set_cons_succ])
      (refine take_val (i := 1) (v := .pointer (some ⟨R, 0, none⟩)) rfl rfl (by kernel_rfl) (by kernel_rfl) (by kernel_rfl) (fun _ _ _ h => h) rfl (by intro wq hq; (try go_split_ands); go_simp; try with_reducible rfl) (hHeld) ?_; simp only [List.setIfInBounds_toArray, List.set_cons_zero, List.set_cons_succ])
      (refine take_val (i := 3) (v := .pointer (some ⟨R, 0, none⟩)) rfl rfl (by kernel_rfl) (by kernel_rfl) (by kernel_rfl) (fun _ _ _ h => h) rfl (by intro wq hq; (try go_split_ands); go_simp; try with_reducible rfl) (hHeld) ?_; simp only [List.setIfInBounds_toArray, List.set_cons_zero, List.set_cons_succ])
      (refine take_val (i := 8) (v := .pointer (some ⟨R, 0, none⟩)) rfl rfl (by kernel_rfl) (by kernel_rfl) (by kernel_rfl) (fun _ _ _ h => h) rfl (by intro wq hq; (try go_split_ands); go_simp; try with_reducible rfl) (hHeld) ?_; simp only [List.setIfInBounds_toArray, List.set_cons_zero, List.set_cons_succ])
      clear hdz
      (refine wpAnyH_ready (rs := [2]) (by kernel_rfl) (by simp) ?_; refine AllReadyH.cons rfl (fun K hK => ?_) AllReadyH.nil; go_simp)
      refine (c_pick R 32 p4 _ hR (by omega) (by omega)).mono ?_; rintro e wA ⟨v, pA, rfl, hRn, hq1xa, hq2xa, hbn, xa, rfl, xa0, xa1⟩
      replace xa1 := xa1 (by omega)
      replace hBE := hbn.blk hBE (.inr (by omega))
      replace hk0 := hbn.kept hk0 (by omega)
      replace hB0 := hbn.blk hB0 (.inl (by omega))
      replace hG := hG.kept (RowsKept.of_but (X := w2.heap.size) hbn hRlt).ints
      replace hD := hD.kept (RowsKept.of_but (X := w2.heap.size) hbn hRlt)
      replace hR := hRn
      clear hbn hRn
      have hSxa : wA.cell? ⟨E, 0, none⟩ = some (.int .i64 st) ∧ wA.cell? ⟨E, 1, none⟩ = some (.slice A1 n1 c1) ∧ wA.cell? ⟨E, 2, none⟩ = some (.slice A2 n2 c2) := ⟨hBE.cell 0, hBE.cell 1, hBE.cell 2⟩
      (refine hK.out _ _ (hSxa) (fun _ => ?_); clear hK K; try simp only [Act.put, List.setIfInBounds_toArray, List.set_cons_zero, List.set_cons_succ])
      (refine wpAnyH_ready (rs := [4]) (by kernel_rfl) (by simp) ?_; refine AllReadyH.cons rfl (fun K hK => ?_) AllReadyH.nil; go_simp)
      refine (c_pick R 40 pA _ hR (by omega) (by omega)).mono ?_; rintro e wB ⟨v, pB, rfl, hRn, hq1xb, hq2xb, hbn, xb, rfl, xb0, xb1⟩
      replace xb1 := xb1 (by omega)
      replace hBE := hbn.blk hBE (.inr (by omega))
      replace hk0 := hbn.kept hk0 (by omega)
      replace hB0 := hbn.blk hB0 (.inl (by omega))
      replace hG := hG.kept (RowsKept.of_but (X := w2.heap.size) hbn hRlt).ints
      replace hD := hD.kept (RowsKept.of_but (X := w2.heap.size) hbn hRlt)
      replace hR := hRn
      clear hbn hRn
      have hSxb : wB.cell? ⟨E, 0, none⟩ = some (.int .i64 st) ∧ wB.cell? ⟨E, 1, none⟩ = some (.slice A1 n1 c1) ∧ wB.cell? ⟨E, 2, none⟩ = some (.slice A2 n2 c2) := ⟨hBE.cell 0, hBE.cell 1, hBE.cell 2⟩
      (refine hK.out _ _ (hSxb) (fun _ => ?_); clear hK K; try simp only [Act.put, List.setIfInBounds_toArray, List.set_cons_zero, List.set_cons_succ])
      obtain ⟨q1, hq1⟩ : ∃ q1, Int.tdiv xb 39 = q1 := ⟨_, rfl⟩
      have hq1' := quo39 xb0 xb1
      rw [hq1] at hq1'
      have hw1 : IntKind.i64.wrap q1 = q1 := by rw [IntKind.wrap_i64]; omega
      have hm1 : IntKind.i64.wrap (q1 * 32) = q1 * 32 := by rw [IntKind.wrap_i64]; omega
      have ha1 : IntKind.i64.wrap (xa + q1 * 32) = xa + q1 * 32 := by rw [IntKind.wrap_i64]; omega
      (refine take_val (i := 5) (v := .int .i64 q1) rfl rfl (by kernel_rfl) (by kernel_rfl) (by kernel_rfl) (fun _ _ _ h => h) rfl (by intro wq hq; (try go_split_ands); go_simp; try with_reducible rfl) (hSxb) ?_; simp only [List.setIfInBounds_toArray, List.set_cons_zero, List.set_cons_succ])
      (refine take_val (i := 6) (v := .int .i64 (q1 * 32)) rfl rfl (by kernel_rfl) (by kernel_rfl) (by kernel_rfl) (fun _ _ _ h => h) rfl (by intro wq hq; (try go_split_ands); go_simp; try with_reducible rfl) (hSxb) ?_; simp only [List.setIfInBounds_toArray, List.set_cons_zero, List.set_cons_succ])
      (refine take_val (i := 7) (v := .int .i64 (xa + q1 * 32)) rfl rfl (by kernel_rfl) (by kernel_rfl) (by kernel_rfl) (fun _ _ _ h => h) rfl (by intro wq hq; (try go_split_ands); go_simp; try with_reducible rfl) (hSxb) ?_; simp only [List.setIfInBounds_toArray, List.set_cons_zero, List.set_cons_succ])
      (refine wpAnyH_ready (rs := [9]) (by kernel_rfl) (by simp) ?_; refine AllReadyH.cons rfl (fun K hK => ?_) AllReadyH.nil; go_simp)
      refine (c_pick R 40 pB _ hR (by omega) (by omega)).mono ?_; rintro e wC ⟨v, pC, rfl, hRn, hq1xc, hq2xc, hbn, xc, rfl, xc0, xc1⟩
      replace xc1 := xc1 (by omega)
      replace hBE := hbn.blk hBE (.inr (by omega))
      replace hk0 := hbn.kept hk0 (by omega)
      replace hB0 := hbn.blk hB0 (.inl (by omega))
      replace hG := hG.kept (RowsKept.of_but (X := w2.heap.size) hbn hRlt).ints
      replace hD := hD.kept (RowsKept.of_but (X := w2.heap.size) hbn hRlt)
      replace hR := hRn
      clear hbn hRn
      have hSxc : wC.cell? ⟨E, 0, none⟩ = some (.int .i64 st) ∧ wC.cell? ⟨E, 1, none⟩ = some (.slice A1 n1 c1) ∧ wC.cell? ⟨E, 2, none⟩ = some (.slice A2 n2 c2) := ⟨hBE.cell 0, hBE.cell 1, hBE.cell 2⟩
      (refine hK.out _ _ (hSxc) (fun _ => ?_); clear hK K; try simp only [Act.put, List.setIfInBounds_toArray, List.set_cons_zero, List.set_cons_succ])
      obtain ⟨q2, hq2⟩ : ∃ q2, Int.tdiv xc 39 = q2 := ⟨_, rfl⟩
      have hq2' := quo39 xc0 xc1
      rw [hq2] at hq2'
      have hw2 : IntKind.i64.wrap q2 = q2 := by rw [IntKind.wrap_i64]; omega
      have hm2 : IntKind.i64.wrap (q2 * 40) = q2 * 40 := by rw [IntKind.wrap_i64]; omega
      have ha2 : IntKind.i64.wrap (xa + q1 * 32 - q2 * 40) = xa + q1 * 32 - q2 * 40 := by rw [IntKind.wrap_i64]; omega
      (refine take_val (i := 10) (v := .int .i64 q2) rfl rfl (by kernel_rfl) (by kernel_rfl) (by kernel_rfl) (fun _ _ _ h => h) rfl (by intro wq hq; (try go_split_ands); go_simp; try with_reducible rfl) (hSxc) ?_; simp only [List.setIfInBounds_toArray, List.set_cons_zero, List.set_cons_succ])
      (refine take_val (i := 11) (v := .int .i64 (q2 * 40)) rfl rfl (by kernel_rfl) (by kernel_rfl) (by kernel_rfl) (fun _ _ _ h => h) rfl (by intro wq hq; (try go_split_ands); go_simp; try with_reducible rfl) (hSxc) ?_; simp only [List.setIfInBounds_toArray, List.set_cons_zero, List.set_cons_succ])
      (refine take_val (i := 12) (v := .int .i64 (xa + q1 * 32 - q2 * 40)) rfl rfl (by kernel_rfl) (by kernel_rfl) (by kernel_rfl) (fun _ _ _ h => h) rfl (by intro wq hq; (try go_split_ands); go_simp; try with_reducible rfl) (hSxc) ?_; simp only [List.setIfInBounds_toArray, List.set_cons_zero, List.set_cons_succ])
      have ce := hB0.cell
      have fe := hB0.frozen
      have b1 := hB0.set_ 0 (.int .i64 st)
      have b2 := b1.set_ 1 (.slice A1 n1 c1)
      have k1 := RowsKept.set (X := w2.heap.size) hB0 (by decide) (by decide) 0 (.int .i64 st)
      have k2 := RowsKept.set (X := w2.heap.size) b1 (by decide) (by decide) 1 (.slice A1 n1 c1)
      have k3 := RowsKept.set (X := w2.heap.size) b2 (by decide) (by decide) 2 (.slice A2 n2 c2)
      have kk := (k1.trans k2).trans k3
      have hG2 := hG.kept kk.ints
      have hD2 := hD.kept kk
      have hle := Nat.le_refl w.heap.size
      have hkF := ((hk0.setCell (p := ⟨w.heap.size, 0, none⟩) hle (.int .i64 st)).setCell (p := ⟨w.heap.size, 1, none⟩) hle (.slice A1 n1 c1)).setCell (p := ⟨w.heap.size, 2, none⟩) hle (.slice A2 n2 c2)
      have hne : E ≠ w.heap.size := by omega
      have hBF := ((hBE.far (p := ⟨w.heap.size, 0, none⟩) hne (.int .i64 st)).far (p := ⟨w.heap.size, 1, none⟩) hne (.slice A1 n1 c1)).far (p := ⟨w.heap.size, 2, none⟩) hne (.slice A2 n2 c2)
      clear hB0 hBE b1 b2 k1 k2 k3 kk hG hD hk0
      have hSF := (⟨hBF.cell 0, hBF.cell 1, hBF.cell 2⟩ : _ ∧ _ ∧ _)
      (refine wpAnyH_ready (rs := [13]) (by kernel_rfl) (by simp) ?_; refine AllReadyH.cons rfl (fun K hK => ?_) AllReadyH.nil; go_simp)
      (refine hK.out _ _ (hSF) (fun _ => ?_); clear hK K; try simp only [Act.put, List.setIfInBounds_toArray, List.set_cons_zero, List.set_cons_succ])
      (refine take_val (i := 14) (v := .int .i64 (xa + q1 * 32 - q2 * 40)) rfl rfl (by kernel_rfl) (by kernel_rfl) (by kernel_rfl) (fun _ _ _ h => h) rfl (by intro wq hq; (try go_split_ands); go_simp; try with_reducible rfl) (hSF) ?_; simp only [List.setIfInBounds_toArray, List.set_cons_zero, List.set_cons_succ])
      refine wpAnyH_done (by kernel_rfl) ?_ _
      go_wp2_with fail
      refine bodyPost_ret (v := .tuple #[.agg #[.int .i64 st, .slice A1 n1 c1, .slice A2 n2 c2], .int .i64 (xa + q1 * 32 - q2 * 40)]) (by simp [results, Tryd.results35, go_sem, ce]) rfl ?_
      exact ⟨_, rfl, ⟨_, _, rfl, ⟨st, A1, n1, c1, A2, n2, c2, rfl, hst, hG2.mono (by omega), hD2.mono (by omega), hn2⟩, by omega, by omega⟩, hkF⟩




























































end Go.Proofs.YtjmpfemlihjibaaDoor
