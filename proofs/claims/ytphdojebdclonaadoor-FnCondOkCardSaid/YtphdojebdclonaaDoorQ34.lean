/- Joined texts. No condition. -/
import Derived.Test.YtphdojebdclonaaDoorQ33
/- Walks: the draw of a task and a code. No condition. -/
namespace Go.Proofs.YtphdojebdclonaaDoor
set_option linter.unusedSimpArgs false
set_option linter.unusedVariables false
open Go.RowKit

/-- a task and a row that a draw made -/
def DrawnTC (v : Value) (w : World) : Prop := ∃ tv t A n c l, v = .tuple #[tv, .slice A n c] ∧ TaskV w tv t ∧ Ints w A n l

set_option maxHeartbeats 8000000 in
set_option maxRecDepth 100000 in
theorem c_drawCondOk (A : Option Addr) (n c : Nat) (w : World) (h : BytesV w A n ∧ n ≤ c ∧ c ≤ maxLen) : Calls Tryd.prog 23 #[.slice A n c] w (RetS DrawnTC w) := by
  obtain ⟨i0, hi0, hz0, hz1, hz2⟩ := info_parts info_int
  have HI := Lib.hid (And.intro hi0 (And.intro hz0 (And.intro hz1 hz2)))
  clear hi0 hz0 hz1 hz2
  have hk0 := (Kept.refl w).alloc (.cells #[.int .i64 0, .slice none 0 0, .slice none 0 0] 26)
  have hB0 := Blk.new w 26 #[.int .i64 0, .slice none 0 0, .slice none 0 0]
  have hb0 := h.1.keep hk0
  go_enter Tryd.func23, Tryd.ntmps23
  go_wp2_with fail
  refine (c_l20Open A n c _ hb0 h.2.1 h.2.2).mono ?_; rintro e w2 ⟨v, rfl, ⟨R, rfl, hRge, hR⟩, hk2⟩
  simp only [World.size_alloc] at hRge
  replace hk0 := hk0.trans hk2
  replace hB0 := hB0.kept hk2
  clear hk2 hb0
  have hRlt := hR.lt
  go_wp2_with fail
  refine (c_l20Hard R 12 0 _ hR (by omega) (by omega) (by omega)).mono ?_; rintro e w3 ⟨v, p3, rfl, hR3, hp1, hp2, hB, st, A1, n1, c1, A2, n2, c2, rfl, hst, hG, hD, hn2⟩
  replace hk0 := hB.kept hk0 (by omega)
  replace hB0 := hB.blk hB0 (.inl (by omega))
  have hsz3 := hB.size
  clear hB hR
  obtain ⟨t, _, hTW⟩ := TaskQ.task2 ⟨st, A1, n1, c1, A2, n2, c2, rfl, hst, hG, hD, hn2⟩
  have HTW := Lib.hid hTW
  have hkE := (Kept.refl w3).alloc (.cells #[.int .i64 st, .slice A1 n1 c1, .slice A2 n2 c2] 26)
  have hBE := Blk.new w3 26 #[.int .i64 st, .slice A1 n1 c1, .slice A2 n2 c2]
  have krA := RowsKept.of_kept (X := w2.heap.size) hkE
  replace hk0 := hk0.trans hkE
  replace hB0 := hB0.kept hkE
  replace hR3 := hR3.keep hkE
  have hT := hTW _ krA
  have hst2 : st = t.start := by
    obtain ⟨_, _, _, _, _, _, e⟩ := hT.form
    simp only [Value.agg.injEq, Array.mk.injEq, List.cons.injEq, Value.int.injEq, true_and] at e
    exact e.1
  have HST := Lib.hid hst2
  clear hkE hG hD hTW hst2
  go_wp2_with fail
  refine (c_sTaskValid _ t _ hT).mono ?_; rintro e w4 ⟨rfl, hk4⟩
  replace hk0 := hk0.trans hk4
  replace hB0 := hB0.kept hk4
  replace hBE := hBE.kept hk4
  have hR := hR3.keep hk4
  replace krA := krA.trans (RowsKept.of_kept (X := w2.heap.size) hk4)
  obtain ⟨E, HE⟩ : ∃ E, Hid (w3.heap.size = E) := ⟨_, rfl⟩
  have hEge : w2.heap.size ≤ w3.heap.size := hsz3
  rw [HE.out] at hBE hEge
  rw [HE.out]
  clear hk4 hR3 hT
  have ge := hBE.cell
  cases ht : Sp.taskOk t
  · clear ht
    go_wp2_with fail
    clear ge
    have hdz := (Kept.refl w4).drew
    replace hk0 := hk0.trans hdz
    replace hB0 := hB0.kept hdz
    replace hBE := hBE.kept hdz
    replace krA := krA.trans (RowsKept.of_kept (X := w2.heap.size) hdz)
    have hRd := hR.keep hdz
    clear hdz hR
    refine wp_region_held_drew (S := fun w' => w'.cell? ⟨E, 0, none⟩ = some (.int .i64 st) ∧ w'.cell? ⟨E, 1, none⟩ = some (.slice A1 n1 c1) ∧ w'.cell? ⟨E, 2, none⟩ = some (.slice A2 n2 c2)) (by kernel_rfl) ⟨hBE.cell 0, hBE.cell 1, hBE.cell 2⟩ (fun hHeld => ?_)
    obtain ⟨W0, HW0⟩ : ∃ x, Hid (w4.drew = x) := ⟨_, rfl⟩
    rw [HW0.out] at hk0 hB0 hBE krA hHeld hRd
    rw [HW0.out]
    (refine take_val (i := 0) (v := .agg #[.int .i64 st, .slice A1 n1 c1, .slice A2 n2 c2]) rfl rfl (by kernel_rfl) (by kernel_rfl) (by kernel_rfl) (fun _ _ _ h => h) rfl (by intro wq hq; (try go_split_ands); go_simp; try with_reducible rfl) (hHeld) ?_; try simp only [List.setIfInBounds_toArray, List.set_cons_zero, List.set_cons_succ])
    (refine take_val (i := 1) (v := .pointer (some ⟨R, 0, none⟩)) rfl rfl (by kernel_rfl) (by kernel_rfl) (by kernel_rfl) (fun _ _ _ h => h) rfl (by intro wq hq; (try go_split_ands); go_simp; try with_reducible rfl) (hHeld) ?_; try simp only [List.setIfInBounds_toArray, List.set_cons_zero, List.set_cons_succ])
    clear hHeld
    (refine wpAnyH_ready (rs := [2]) (by kernel_rfl) (by simp) ?_; refine AllReadyH.cons rfl (fun K hK => ?_) AllReadyH.nil; go_simp)
    have hRl0 := hRd.lt
    have hsz0 := hk0.size
    refine (c_l20Code3 R p3 _ hRd (by omega)).mono ?_; rintro e W1 ⟨v, p9, rfl, hR9, hp9, hp9', hb9, A4, n4, c4, l4, rfl, hn4, hoW, hin4⟩
    replace hBE := hb9.blk hBE (.inr (by omega))
    replace hk0 := hb9.kept hk0 (by omega)
    replace hB0 := hb9.blk hB0 (.inl (by omega))
    replace krA := krA.trans (RowsKept.of_but (X := w2.heap.size) hb9 hRlt)
    clear hb9 hR9 hRd
    (refine hK.out _ _ (⟨hBE.cell 0, hBE.cell 1, hBE.cell 2⟩) (fun _ => ?_); clear hK K; try simp only [Act.put, List.setIfInBounds_toArray, List.set_cons_zero, List.set_cons_succ])
    have ce := hB0.cell
    have fe := hB0.frozen
    have b1 := hB0.set_ 0 (.int .i64 st)
    have b2 := b1.set_ 1 (.slice A1 n1 c1)
    have k1 := RowsKept.set (X := w2.heap.size) hB0 (by decide) (by decide) 0 (.int .i64 st)
    have k2 := RowsKept.set (X := w2.heap.size) b1 (by decide) (by decide) 1 (.slice A1 n1 c1)
    have k3 := RowsKept.set (X := w2.heap.size) b2 (by decide) (by decide) 2 (.slice A2 n2 c2)
    have HTF := Lib.hid (HTW.out _ (((krA.trans k1).trans k2).trans k3))
    have hle := Nat.le_refl w.heap.size
    have HKF := Lib.hid (((hk0.setCell (p := ⟨w.heap.size, 0, none⟩) hle (.int .i64 st)).setCell (p := ⟨w.heap.size, 1, none⟩) hle (.slice A1 n1 c1)).setCell (p := ⟨w.heap.size, 2, none⟩) hle (.slice A2 n2 c2))
    have hnE : E ≠ w.heap.size := by omega
    have hBF := ((hBE.far (p := ⟨w.heap.size, 0, none⟩) hnE (.int .i64 st)).far (p := ⟨w.heap.size, 1, none⟩) hnE (.slice A1 n1 c1)).far (p := ⟨w.heap.size, 2, none⟩) hnE (.slice A2 n2 c2)
    have hoF := own_farT (by decide) b2 (own_farT (by decide) b1 (own_farT (by decide) hB0 hoW 0 (.int .i64 st)) 1 (.slice A1 n1 c1)) 2 (.slice A2 n2 c2)
    clear b1 b2 k1 k2 k3 hle hB0 hBE krA hk0 hoW
    (refine wpAnyH_ready (rs := [3]) (by kernel_rfl) (by simp) ?_; refine AllReadyH.cons rfl (fun K hK => ?_) AllReadyH.nil; go_simp)
    (refine hK.out _ _ (⟨hBF.cell 0, hBF.cell 1, hBF.cell 2⟩) (fun _ => ?_); clear hK K; try simp only [Act.put, List.setIfInBounds_toArray, List.set_cons_zero, List.set_cons_succ])
    (refine take_val (i := 4) (v := .slice A4 n4 c4) rfl rfl (by kernel_rfl) (by kernel_rfl) (by kernel_rfl) (fun _ _ _ h => h) rfl (by intro wq hq; (try go_split_ands); go_simp; try with_reducible rfl) (⟨hBF.cell 0, hBF.cell 1, hBF.cell 2⟩) ?_; try simp only [List.setIfInBounds_toArray, List.set_cons_zero, List.set_cons_succ])
    refine wpAnyH_done (by kernel_rfl) ?_ _
    clear hBF
    have HOF := Lib.hid hoF
    clear hoF
    go_wp2_with fail
    refine bodyPost_ret (v := .tuple #[.agg #[.int .i64 st, .slice A1 n1 c1, .slice A2 n2 c2], .slice A4 n4 c4]) (by simp [results, Tryd.results23, go_sem, ce]) rfl ?_
    exact ⟨_, rfl, ⟨_, t, _, _, _, l4, rfl, HTF.out, own_ints2 (by omega) HOF.out hin4⟩, HKF.out⟩
  clear ht
  by_cases h40 : n1 < 40
  · have h40i : (n1 : Int) < 40 := by omega
    go_wp2_with fail
    refine (c_pick R 2 p3 _ hR (by omega) (by omega)).mono ?_; rintro e w5 ⟨v, p5, rfl, hR5, hp3, hp4, hb5, x, rfl, hx0, hx1⟩
    replace hBE := hb5.blk hBE (.inr (by omega))
    replace hk0 := hb5.kept hk0 (by omega)
    replace hB0 := hb5.blk hB0 (.inl (by omega))
    replace krA := krA.trans (RowsKept.of_but (X := w2.heap.size) hb5 hRlt)
    clear hb5 hR ge
    have hR := hR5
    clear hR5
    by_cases hx : x = 0
    · subst hx
      go_wp2_with fail
      have hdz := (Kept.refl w5).drew
      replace hk0 := hk0.trans hdz
      replace hB0 := hB0.kept hdz
      replace hBE := hBE.kept hdz
      replace krA := krA.trans (RowsKept.of_kept (X := w2.heap.size) hdz)
      clear hdz
      refine wp_region_held_drew (S := fun w' => w'.cell? ⟨E, 0, none⟩ = some (.int .i64 st) ∧ w'.cell? ⟨E, 1, none⟩ = some (.slice A1 n1 c1) ∧ w'.cell? ⟨E, 2, none⟩ = some (.slice A2 n2 c2)) (by kernel_rfl) ⟨hBE.cell 0, hBE.cell 1, hBE.cell 2⟩ (fun hHeld => ?_)
      obtain ⟨W0, HW0⟩ : ∃ x, Hid (w5.drew = x) := ⟨_, rfl⟩
      rw [HW0.out] at hk0 hB0 hBE krA hHeld
      rw [HW0.out]
      (refine take_val (i := 0) (v := .agg #[.int .i64 st, .slice A1 n1 c1, .slice A2 n2 c2]) rfl rfl (by kernel_rfl) (by kernel_rfl) (by kernel_rfl) (fun _ _ _ h => h) rfl (by intro wq hq; (try go_split_ands); go_simp; try with_reducible rfl) (hHeld) ?_; try simp only [List.setIfInBounds_toArray, List.set_cons_zero, List.set_cons_succ])
      (refine take_val (i := 2) (v := .pointer (some ⟨E, 1, none⟩)) rfl rfl (by kernel_rfl) (by kernel_rfl) (by kernel_rfl) (fun _ _ _ h => h) rfl (by intro wq hq; (try go_split_ands); go_simp; try with_reducible rfl) (hHeld) ?_; try simp only [List.setIfInBounds_toArray, List.set_cons_zero, List.set_cons_succ])
      (refine take_val (i := 3) (v := .slice A1 n1 c1) rfl rfl (by kernel_rfl) (by kernel_rfl) (by kernel_rfl) (fun _ _ _ h => h) rfl (by intro wq hq; (try go_split_ands); go_simp; try with_reducible rfl) (hHeld) ?_; try simp only [List.setIfInBounds_toArray, List.set_cons_zero, List.set_cons_succ])
      have hIG : Ints W0 A1 n1 t.goal := by
        have h9 := HTW.out _ krA
        rw [HST.out] at h9
        exact h9.goal
      have hDl := hB0.lt
      have hEl := hBE.lt
      have HB0 := Lib.hid hB0
      have HBE := Lib.hid hBE
      have HK0 := Lib.hid hk0
      have HKR := Lib.hid krA
      have hx00 := Kept.refl W0
      clear hB0 hBE hk0 krA hR
      refine wpAnyH_ready (rs := [1, 5]) (by kernel_rfl) (by simp) ?_
      refine AllReadyH.cons rfl (fun K hK => ?_) (AllReadyH.cons rfl (fun K hK => ?_) AllReadyH.nil)
      · skip
        go_simp
        have hl1 := (Kept.refl W0).alloc (.cells #[] 3)
        have hx1 := hx00.trans hl1
        have ho1 := World.ownsRow_made (base := W0.heap.size) (e := 3) (size := 1) W0 #[] 0 hx00.size (by unfold maxLen; omega) rfl
        have BS1 := HBE.out.kept hx1
        (refine hK.out _ _ (⟨BS1.cell 0, BS1.cell 1, BS1.cell 2⟩) (fun _ => ?_); clear hK K; try simp only [Act.put, List.setIfInBounds_toArray, List.set_cons_zero, List.set_cons_succ])
        obtain ⟨F, HF⟩ : ∃ x, Hid (W0.heap.size = x) := ⟨_, rfl⟩
        obtain ⟨W1, HW1⟩ : ∃ x, Hid (W0.alloc (.cells #[] 3) = x) := ⟨_, rfl⟩
        clear hl1 BS1
        rw [HW1.out] at hx1 ho1
        have hp1 : W1.ownsRow W0.heap.size 3 1 (.slice (some ⟨F, 0, none⟩) 0 0) 0 [] := by rw [← HF.out]; exact ho1
        clear ho1
        rw [HF.out, HW1.out]
        refine wpAnyH_ready (rs := [4, 5]) (by kernel_rfl) (by simp) ?_
        refine AllReadyH.cons rfl (fun K hK => ?_) (AllReadyH.cons rfl (fun K hK => ?_) AllReadyH.nil)
        · skip
          refine wp_app_ints _ (.tmp 24) (.tmp 26) 23 rfl W0.heap.size 3 i0 (.int .i64 0) Tryd.underlying23 HI.out.1 HI.out.2.1 HI.out.2.2.1 HI.out.2.2.2 rfl (.slice (some ⟨F, 0, none⟩) 0 0) 0 [] rfl hp1 A1 n1 c1 t.goal rfl (hIG.keep hx1) n1 (Nat.zero_add _) (by unfold maxLen; omega) (by omega) hx1.size (fun v5 W2 ho2 hg2 hat2 => ?_)
          obtain ⟨A5, c5, rfl⟩ := own_form ho2
          rw [List.nil_append] at ho2
          have hx2 := hx1.grown hg2 (fun k e => (hp1.lt k e).1)
          have BS2 := HBE.out.kept hx2
          refine hK.out _ _ ⟨BS2.cell 0, BS2.cell 1, BS2.cell 2⟩ (fun _ => ?_); clear hK K; try simp only [Act.put, List.setIfInBounds_toArray, List.set_cons_zero, List.set_cons_succ]
          clear BS2
          refine wpAnyH_ready (rs := [5]) (by kernel_rfl) (by simp) ?_
          refine AllReadyH.cons rfl (fun K hK => ?_) AllReadyH.nil
          go_simp
          have hl3 := (Kept.refl W2).alloc (.cells #[.int .i64 7] 3)
          have hx3 := hx2.trans hl3
          have BG3 := Blk.new W2 3 #[.int .i64 7]
          have ho3 := own_keep ho2 hl3
          have BS3 := HBE.out.kept hx3
          (refine hK.out _ _ (⟨BS3.cell 0, BS3.cell 1, BS3.cell 2⟩) (fun _ => ?_); clear hK K; try simp only [Act.put, List.setIfInBounds_toArray, List.set_cons_zero, List.set_cons_succ])
          obtain ⟨G, HG⟩ : ∃ x, Hid (W2.heap.size = x) := ⟨_, rfl⟩
          obtain ⟨W3, HW3⟩ : ∃ x, Hid (W2.alloc (.cells #[.int .i64 7] 3) = x) := ⟨_, rfl⟩
          clear hl3 BS3
          rw [HW3.out] at hx3 BG3 ho3
          rw [HG.out] at BG3
          rw [HG.out, HW3.out]
          have hnG3 : ∀ k, (Value.slice A5 n1 c5).ownBlock = some k → k ≠ G := fun k e => by have h1 := (ho2.lt k e).2; have h2 := HG.out; omega
          refine wpAnyH_ready (rs := [6]) (by kernel_rfl) (by simp) ?_
          refine AllReadyH.cons rfl (fun K hK => ?_) AllReadyH.nil
          refine wp_app_ints _ (.tmp 27) (.tmp 28) 23 rfl W0.heap.size 3 i0 (.int .i64 0) Tryd.underlying23 HI.out.1 HI.out.2.1 HI.out.2.2.1 HI.out.2.2.2 rfl (.slice A5 n1 c5) n1 (t.goal.map (Value.int .i64)) rfl ho3 (some ⟨G, 0, none⟩) 1 1 [7] rfl (blk_oneD BG3 (by decide)) (n1 + 1) rfl (by unfold maxLen; omega) (by omega) hx3.size (fun vz Wz hoz hgz hatz => ?_)
          obtain ⟨A6, c6, rfl⟩ := own_form hoz
          rw [← List.map_append] at hoz
          have hxz := hx3.grown hgz (fun k e => (ho3.lt k e).1)
          have hB0 := HB0.out.kept hxz
          have hBE := HBE.out.kept hxz
          have hk0 := HK0.out.trans hxz
          have krA := HKR.out.trans (RowsKept.of_kept (X := w2.heap.size) hxz)
          have hoW := hoz
          have HIN : Hid (∀ x ∈ t.goal ++ [7], Sp.inI x) := inI_app hIG.2.2.1 (inI_one (by omega) (by omega))
          clear hoz hgz hxz hIG
          refine hK.out _ _ ⟨hBE.cell 0, hBE.cell 1, hBE.cell 2⟩ (fun _ => ?_); clear hK K; try simp only [Act.put, List.setIfInBounds_toArray, List.set_cons_zero, List.set_cons_succ]
          have ce := hB0.cell
          have fe := hB0.frozen
          have b1 := hB0.set_ 0 (.int .i64 st)
          have b2 := b1.set_ 1 (.slice A1 n1 c1)
          have k1 := RowsKept.set (X := w2.heap.size) hB0 (by decide) (by decide) 0 (.int .i64 st)
          have k2 := RowsKept.set (X := w2.heap.size) b1 (by decide) (by decide) 1 (.slice A1 n1 c1)
          have k3 := RowsKept.set (X := w2.heap.size) b2 (by decide) (by decide) 2 (.slice A2 n2 c2)
          have HTF := Lib.hid (HTW.out _ (((krA.trans k1).trans k2).trans k3))
          have hle := Nat.le_refl w.heap.size
          have HKF := Lib.hid (((hk0.setCell (p := ⟨w.heap.size, 0, none⟩) hle (.int .i64 st)).setCell (p := ⟨w.heap.size, 1, none⟩) hle (.slice A1 n1 c1)).setCell (p := ⟨w.heap.size, 2, none⟩) hle (.slice A2 n2 c2))
          have hnE : E ≠ w.heap.size := by omega
          have hBF := ((hBE.far (p := ⟨w.heap.size, 0, none⟩) hnE (.int .i64 st)).far (p := ⟨w.heap.size, 1, none⟩) hnE (.slice A1 n1 c1)).far (p := ⟨w.heap.size, 2, none⟩) hnE (.slice A2 n2 c2)
          have hoF := own_farT (by decide) b2 (own_farT (by decide) b1 (own_farT (by decide) hB0 hoW 0 (.int .i64 st)) 1 (.slice A1 n1 c1)) 2 (.slice A2 n2 c2)
          clear b1 b2 k1 k2 k3 hle hB0 hBE krA hk0 hoW
          (refine wpAnyH_ready (rs := [7]) (by kernel_rfl) (by simp) ?_; refine AllReadyH.cons rfl (fun K hK => ?_) AllReadyH.nil; go_simp)
          (refine hK.out _ _ (⟨hBF.cell 0, hBF.cell 1, hBF.cell 2⟩) (fun _ => ?_); clear hK K; try simp only [Act.put, List.setIfInBounds_toArray, List.set_cons_zero, List.set_cons_succ])
          (refine take_val (i := 8) (v := .slice A6 (n1 + 1) c6) rfl rfl (by kernel_rfl) (by kernel_rfl) (by kernel_rfl) (fun _ _ _ h => h) rfl (by intro wq hq; (try go_split_ands); go_simp; try with_reducible rfl) (⟨hBF.cell 0, hBF.cell 1, hBF.cell 2⟩) ?_; try simp only [List.setIfInBounds_toArray, List.set_cons_zero, List.set_cons_succ])
          refine wpAnyH_done (by kernel_rfl) ?_ _
          clear hBF
          have HOF := Lib.hid hoF
          clear hoF
          go_wp2_with fail
          refine bodyPost_ret (v := .tuple #[.agg #[.int .i64 st, .slice A1 n1 c1, .slice A2 n2 c2], .slice A6 (n1 + 1) c6]) (by simp [results, Tryd.results23, go_sem, ce]) rfl ?_
          exact ⟨_, rfl, ⟨_, t, _, _, _, (t.goal ++ [7]), rfl, HTF.out, own_ints2 (by omega) HOF.out HIN.out⟩, HKF.out⟩
        · skip
          go_simp
          have hl5 := (Kept.refl W1).alloc (.cells #[.int .i64 7] 3)
          have hx5 := hx1.trans hl5
          have BG5 := Blk.new W1 3 #[.int .i64 7]
          have ho5 := own_keep hp1 hl5
          have BS5 := HBE.out.kept hx5
          (refine hK.out _ _ (⟨BS5.cell 0, BS5.cell 1, BS5.cell 2⟩) (fun _ => ?_); clear hK K; try simp only [Act.put, List.setIfInBounds_toArray, List.set_cons_zero, List.set_cons_succ])
          obtain ⟨G, HG⟩ : ∃ x, Hid (W1.heap.size = x) := ⟨_, rfl⟩
          obtain ⟨W5, HW5⟩ : ∃ x, Hid (W1.alloc (.cells #[.int .i64 7] 3) = x) := ⟨_, rfl⟩
          clear hl5 BS5
          rw [HW5.out] at hx5 BG5 ho5
          rw [HG.out] at BG5
          rw [HG.out, HW5.out]
          have hnG5 : ∀ k, (Value.slice (some ⟨F, 0, none⟩) 0 0).ownBlock = some k → k ≠ G := fun k e => by have h1 := (hp1.lt k e).2; have h2 := HG.out; omega
          refine wpAnyH_ready (rs := [4]) (by kernel_rfl) (by simp) ?_
          refine AllReadyH.cons rfl (fun K hK => ?_) AllReadyH.nil
          refine wp_app_ints _ (.tmp 24) (.tmp 26) 23 rfl W0.heap.size 3 i0 (.int .i64 0) Tryd.underlying23 HI.out.1 HI.out.2.1 HI.out.2.2.1 HI.out.2.2.2 rfl (.slice (some ⟨F, 0, none⟩) 0 0) 0 [] rfl ho5 A1 n1 c1 t.goal rfl (hIG.keep hx5) n1 (Nat.zero_add _) (by unfold maxLen; omega) (by omega) hx5.size (fun v5 W6 ho6 hg6 hat6 => ?_)
          obtain ⟨A5, c5, rfl⟩ := own_form ho6
          rw [List.nil_append] at ho6
          have hx6 := hx5.grown hg6 (fun k e => (ho5.lt k e).1)
          have BG6 := BG5.grown hg6 (fun e => hnG5 _ e.symm rfl)
          have BS6 := HBE.out.kept hx6
          refine hK.out _ _ ⟨BS6.cell 0, BS6.cell 1, BS6.cell 2⟩ (fun _ => ?_); clear hK K; try simp only [Act.put, List.setIfInBounds_toArray, List.set_cons_zero, List.set_cons_succ]
          clear BS6
          refine wpAnyH_ready (rs := [6]) (by kernel_rfl) (by simp) ?_
          refine AllReadyH.cons rfl (fun K hK => ?_) AllReadyH.nil
          refine wp_app_ints _ (.tmp 27) (.tmp 28) 23 rfl W0.heap.size 3 i0 (.int .i64 0) Tryd.underlying23 HI.out.1 HI.out.2.1 HI.out.2.2.1 HI.out.2.2.2 rfl (.slice A5 n1 c5) n1 (t.goal.map (Value.int .i64)) rfl ho6 (some ⟨G, 0, none⟩) 1 1 [7] rfl (blk_oneD BG6 (by decide)) (n1 + 1) rfl (by unfold maxLen; omega) (by omega) hx6.size (fun vz Wz hoz hgz hatz => ?_)
          obtain ⟨A6, c6, rfl⟩ := own_form hoz
          rw [← List.map_append] at hoz
          have hxz := hx6.grown hgz (fun k e => (ho6.lt k e).1)
          have hB0 := HB0.out.kept hxz
          have hBE := HBE.out.kept hxz
          have hk0 := HK0.out.trans hxz
          have krA := HKR.out.trans (RowsKept.of_kept (X := w2.heap.size) hxz)
          have hoW := hoz
          have HIN : Hid (∀ x ∈ t.goal ++ [7], Sp.inI x) := inI_app hIG.2.2.1 (inI_one (by omega) (by omega))
          clear hoz hgz hxz hIG
          refine hK.out _ _ ⟨hBE.cell 0, hBE.cell 1, hBE.cell 2⟩ (fun _ => ?_); clear hK K; try simp only [Act.put, List.setIfInBounds_toArray, List.set_cons_zero, List.set_cons_succ]
          have ce := hB0.cell
          have fe := hB0.frozen
          have b1 := hB0.set_ 0 (.int .i64 st)
          have b2 := b1.set_ 1 (.slice A1 n1 c1)
          have k1 := RowsKept.set (X := w2.heap.size) hB0 (by decide) (by decide) 0 (.int .i64 st)
          have k2 := RowsKept.set (X := w2.heap.size) b1 (by decide) (by decide) 1 (.slice A1 n1 c1)
          have k3 := RowsKept.set (X := w2.heap.size) b2 (by decide) (by decide) 2 (.slice A2 n2 c2)
          have HTF := Lib.hid (HTW.out _ (((krA.trans k1).trans k2).trans k3))
          have hle := Nat.le_refl w.heap.size
          have HKF := Lib.hid (((hk0.setCell (p := ⟨w.heap.size, 0, none⟩) hle (.int .i64 st)).setCell (p := ⟨w.heap.size, 1, none⟩) hle (.slice A1 n1 c1)).setCell (p := ⟨w.heap.size, 2, none⟩) hle (.slice A2 n2 c2))
          have hnE : E ≠ w.heap.size := by omega
          have hBF := ((hBE.far (p := ⟨w.heap.size, 0, none⟩) hnE (.int .i64 st)).far (p := ⟨w.heap.size, 1, none⟩) hnE (.slice A1 n1 c1)).far (p := ⟨w.heap.size, 2, none⟩) hnE (.slice A2 n2 c2)
          have hoF := own_farT (by decide) b2 (own_farT (by decide) b1 (own_farT (by decide) hB0 hoW 0 (.int .i64 st)) 1 (.slice A1 n1 c1)) 2 (.slice A2 n2 c2)
          clear b1 b2 k1 k2 k3 hle hB0 hBE krA hk0 hoW
          (refine wpAnyH_ready (rs := [7]) (by kernel_rfl) (by simp) ?_; refine AllReadyH.cons rfl (fun K hK => ?_) AllReadyH.nil; go_simp)
          (refine hK.out _ _ (⟨hBF.cell 0, hBF.cell 1, hBF.cell 2⟩) (fun _ => ?_); clear hK K; try simp only [Act.put, List.setIfInBounds_toArray, List.set_cons_zero, List.set_cons_succ])
          (refine take_val (i := 8) (v := .slice A6 (n1 + 1) c6) rfl rfl (by kernel_rfl) (by kernel_rfl) (by kernel_rfl) (fun _ _ _ h => h) rfl (by intro wq hq; (try go_split_ands); go_simp; try with_reducible rfl) (⟨hBF.cell 0, hBF.cell 1, hBF.cell 2⟩) ?_; try simp only [List.setIfInBounds_toArray, List.set_cons_zero, List.set_cons_succ])
          refine wpAnyH_done (by kernel_rfl) ?_ _
          clear hBF
          have HOF := Lib.hid hoF
          clear hoF
          go_wp2_with fail
          refine bodyPost_ret (v := .tuple #[.agg #[.int .i64 st, .slice A1 n1 c1, .slice A2 n2 c2], .slice A6 (n1 + 1) c6]) (by simp [results, Tryd.results23, go_sem, ce]) rfl ?_
          exact ⟨_, rfl, ⟨_, t, _, _, _, (t.goal ++ [7]), rfl, HTF.out, own_ints2 (by omega) HOF.out HIN.out⟩, HKF.out⟩
      · skip
        go_simp
        have hl8 := (Kept.refl W0).alloc (.cells #[.int .i64 7] 3)
        have hx8 := hx00.trans hl8
        have BG8 := Blk.new W0 3 #[.int .i64 7]
        have BS8 := HBE.out.kept hx8
        (refine hK.out _ _ (⟨BS8.cell 0, BS8.cell 1, BS8.cell 2⟩) (fun _ => ?_); clear hK K; try simp only [Act.put, List.setIfInBounds_toArray, List.set_cons_zero, List.set_cons_succ])
        obtain ⟨G, HG⟩ : ∃ x, Hid (W0.heap.size = x) := ⟨_, rfl⟩
        obtain ⟨W8, HW8⟩ : ∃ x, Hid (W0.alloc (.cells #[.int .i64 7] 3) = x) := ⟨_, rfl⟩
        clear hl8 BS8
        rw [HW8.out] at hx8 BG8
        rw [HG.out] at BG8
        rw [HG.out, HW8.out]
        refine wpAnyH_ready (rs := [1]) (by kernel_rfl) (by simp) ?_
        refine AllReadyH.cons rfl (fun K hK => ?_) AllReadyH.nil
        go_simp
        have hl9 := (Kept.refl W8).alloc (.cells #[] 3)
        have hx9 := hx8.trans hl9
        have ho9 := World.ownsRow_made (base := W0.heap.size) (e := 3) (size := 1) W8 #[] 0 hx8.size (by unfold maxLen; omega) rfl
        have BG9 := BG8.kept hl9
        have BS9 := HBE.out.kept hx9
        (refine hK.out _ _ (⟨BS9.cell 0, BS9.cell 1, BS9.cell 2⟩) (fun _ => ?_); clear hK K; try simp only [Act.put, List.setIfInBounds_toArray, List.set_cons_zero, List.set_cons_succ])
        obtain ⟨F, HF⟩ : ∃ x, Hid (W8.heap.size = x) := ⟨_, rfl⟩
        obtain ⟨W9, HW9⟩ : ∃ x, Hid (W8.alloc (.cells #[] 3) = x) := ⟨_, rfl⟩
        clear hl9 BS9
        rw [HW9.out] at hx9 ho9 BG9
        have hp9 : W9.ownsRow W0.heap.size 3 1 (.slice (some ⟨F, 0, none⟩) 0 0) 0 [] := by rw [← HF.out]; exact ho9
        clear ho9
        rw [HF.out, HW9.out]
        have hnG9 : ∀ k, (Value.slice (some ⟨F, 0, none⟩) 0 0).ownBlock = some k → k ≠ G := fun k e => by have h1 := BG8.lt; have h2 := HF.out; simp [Value.ownBlock] at e; omega
        refine wpAnyH_ready (rs := [4]) (by kernel_rfl) (by simp) ?_
        refine AllReadyH.cons rfl (fun K hK => ?_) AllReadyH.nil
        refine wp_app_ints _ (.tmp 24) (.tmp 26) 23 rfl W0.heap.size 3 i0 (.int .i64 0) Tryd.underlying23 HI.out.1 HI.out.2.1 HI.out.2.2.1 HI.out.2.2.2 rfl (.slice (some ⟨F, 0, none⟩) 0 0) 0 [] rfl hp9 A1 n1 c1 t.goal rfl (hIG.keep hx9) n1 (Nat.zero_add _) (by unfold maxLen; omega) (by omega) hx9.size (fun v5 W10 ho10 hg10 hat10 => ?_)
        obtain ⟨A5, c5, rfl⟩ := own_form ho10
        rw [List.nil_append] at ho10
        have hx10 := hx9.grown hg10 (fun k e => (hp9.lt k e).1)
        have BG10 := BG9.grown hg10 (fun e => hnG9 _ e.symm rfl)
        have BS10 := HBE.out.kept hx10
        refine hK.out _ _ ⟨BS10.cell 0, BS10.cell 1, BS10.cell 2⟩ (fun _ => ?_); clear hK K; try simp only [Act.put, List.setIfInBounds_toArray, List.set_cons_zero, List.set_cons_succ]
        clear BS10
        refine wpAnyH_ready (rs := [6]) (by kernel_rfl) (by simp) ?_
        refine AllReadyH.cons rfl (fun K hK => ?_) AllReadyH.nil
        refine wp_app_ints _ (.tmp 27) (.tmp 28) 23 rfl W0.heap.size 3 i0 (.int .i64 0) Tryd.underlying23 HI.out.1 HI.out.2.1 HI.out.2.2.1 HI.out.2.2.2 rfl (.slice A5 n1 c5) n1 (t.goal.map (Value.int .i64)) rfl ho10 (some ⟨G, 0, none⟩) 1 1 [7] rfl (blk_oneD BG10 (by decide)) (n1 + 1) rfl (by unfold maxLen; omega) (by omega) hx10.size (fun vz Wz hoz hgz hatz => ?_)
        obtain ⟨A6, c6, rfl⟩ := own_form hoz
        rw [← List.map_append] at hoz
        have hxz := hx10.grown hgz (fun k e => (ho10.lt k e).1)
        have hB0 := HB0.out.kept hxz
        have hBE := HBE.out.kept hxz
        have hk0 := HK0.out.trans hxz
        have krA := HKR.out.trans (RowsKept.of_kept (X := w2.heap.size) hxz)
        have hoW := hoz
        have HIN : Hid (∀ x ∈ t.goal ++ [7], Sp.inI x) := inI_app hIG.2.2.1 (inI_one (by omega) (by omega))
        clear hoz hgz hxz hIG
        refine hK.out _ _ ⟨hBE.cell 0, hBE.cell 1, hBE.cell 2⟩ (fun _ => ?_); clear hK K; try simp only [Act.put, List.setIfInBounds_toArray, List.set_cons_zero, List.set_cons_succ]
        have ce := hB0.cell
        have fe := hB0.frozen
        have b1 := hB0.set_ 0 (.int .i64 st)
        have b2 := b1.set_ 1 (.slice A1 n1 c1)
        have k1 := RowsKept.set (X := w2.heap.size) hB0 (by decide) (by decide) 0 (.int .i64 st)
        have k2 := RowsKept.set (X := w2.heap.size) b1 (by decide) (by decide) 1 (.slice A1 n1 c1)
        have k3 := RowsKept.set (X := w2.heap.size) b2 (by decide) (by decide) 2 (.slice A2 n2 c2)
        have HTF := Lib.hid (HTW.out _ (((krA.trans k1).trans k2).trans k3))
        have hle := Nat.le_refl w.heap.size
        have HKF := Lib.hid (((hk0.setCell (p := ⟨w.heap.size, 0, none⟩) hle (.int .i64 st)).setCell (p := ⟨w.heap.size, 1, none⟩) hle (.slice A1 n1 c1)).setCell (p := ⟨w.heap.size, 2, none⟩) hle (.slice A2 n2 c2))
        have hnE : E ≠ w.heap.size := by omega
        have hBF := ((hBE.far (p := ⟨w.heap.size, 0, none⟩) hnE (.int .i64 st)).far (p := ⟨w.heap.size, 1, none⟩) hnE (.slice A1 n1 c1)).far (p := ⟨w.heap.size, 2, none⟩) hnE (.slice A2 n2 c2)
        have hoF := own_farT (by decide) b2 (own_farT (by decide) b1 (own_farT (by decide) hB0 hoW 0 (.int .i64 st)) 1 (.slice A1 n1 c1)) 2 (.slice A2 n2 c2)
        clear b1 b2 k1 k2 k3 hle hB0 hBE krA hk0 hoW
        (refine wpAnyH_ready (rs := [7]) (by kernel_rfl) (by simp) ?_; refine AllReadyH.cons rfl (fun K hK => ?_) AllReadyH.nil; go_simp)
        (refine hK.out _ _ (⟨hBF.cell 0, hBF.cell 1, hBF.cell 2⟩) (fun _ => ?_); clear hK K; try simp only [Act.put, List.setIfInBounds_toArray, List.set_cons_zero, List.set_cons_succ])
        (refine take_val (i := 8) (v := .slice A6 (n1 + 1) c6) rfl rfl (by kernel_rfl) (by kernel_rfl) (by kernel_rfl) (fun _ _ _ h => h) rfl (by intro wq hq; (try go_split_ands); go_simp; try with_reducible rfl) (⟨hBF.cell 0, hBF.cell 1, hBF.cell 2⟩) ?_; try simp only [List.setIfInBounds_toArray, List.set_cons_zero, List.set_cons_succ])
        refine wpAnyH_done (by kernel_rfl) ?_ _
        clear hBF
        have HOF := Lib.hid hoF
        clear hoF
        go_wp2_with fail
        refine bodyPost_ret (v := .tuple #[.agg #[.int .i64 st, .slice A1 n1 c1, .slice A2 n2 c2], .slice A6 (n1 + 1) c6]) (by simp [results, Tryd.results23, go_sem, ce]) rfl ?_
        exact ⟨_, rfl, ⟨_, t, _, _, _, (t.goal ++ [7]), rfl, HTF.out, own_ints2 (by omega) HOF.out HIN.out⟩, HKF.out⟩
    · have hxf : (x == 0) = false := beq_eq_false_iff_ne.2 hx
      go_wp2_with fail
      skip
      have hdz := (Kept.refl w5).drew
      replace hk0 := hk0.trans hdz
      replace hB0 := hB0.kept hdz
      replace hBE := hBE.kept hdz
      replace krA := krA.trans (RowsKept.of_kept (X := w2.heap.size) hdz)
      have hRd := hR.keep hdz
      clear hdz hR
      refine wp_region_held_drew (S := fun w' => w'.cell? ⟨E, 0, none⟩ = some (.int .i64 st) ∧ w'.cell? ⟨E, 1, none⟩ = some (.slice A1 n1 c1) ∧ w'.cell? ⟨E, 2, none⟩ = some (.slice A2 n2 c2)) (by kernel_rfl) ⟨hBE.cell 0, hBE.cell 1, hBE.cell 2⟩ (fun hHeld => ?_)
      obtain ⟨W0, HW0⟩ : ∃ x, Hid (w5.drew = x) := ⟨_, rfl⟩
      rw [HW0.out] at hk0 hB0 hBE krA hHeld hRd
      rw [HW0.out]
      (refine take_val (i := 0) (v := .agg #[.int .i64 st, .slice A1 n1 c1, .slice A2 n2 c2]) rfl rfl (by kernel_rfl) (by kernel_rfl) (by kernel_rfl) (fun _ _ _ h => h) rfl (by intro wq hq; (try go_split_ands); go_simp; try with_reducible rfl) (hHeld) ?_; try simp only [List.setIfInBounds_toArray, List.set_cons_zero, List.set_cons_succ])
      (refine take_val (i := 1) (v := .pointer (some ⟨R, 0, none⟩)) rfl rfl (by kernel_rfl) (by kernel_rfl) (by kernel_rfl) (fun _ _ _ h => h) rfl (by intro wq hq; (try go_split_ands); go_simp; try with_reducible rfl) (hHeld) ?_; try simp only [List.setIfInBounds_toArray, List.set_cons_zero, List.set_cons_succ])
      clear hHeld
      (refine wpAnyH_ready (rs := [2]) (by kernel_rfl) (by simp) ?_; refine AllReadyH.cons rfl (fun K hK => ?_) AllReadyH.nil; go_simp)
      have hRl0 := hRd.lt
      have hsz0 := hk0.size
      refine (c_l20Code3 R p5 _ hRd (by omega)).mono ?_; rintro e W1 ⟨v, p9, rfl, hR9, hp9, hp9', hb9, A4, n4, c4, l4, rfl, hn4, hoW, hin4⟩
      replace hBE := hb9.blk hBE (.inr (by omega))
      replace hk0 := hb9.kept hk0 (by omega)
      replace hB0 := hb9.blk hB0 (.inl (by omega))
      replace krA := krA.trans (RowsKept.of_but (X := w2.heap.size) hb9 hRlt)
      clear hb9 hR9 hRd
      (refine hK.out _ _ (⟨hBE.cell 0, hBE.cell 1, hBE.cell 2⟩) (fun _ => ?_); clear hK K; try simp only [Act.put, List.setIfInBounds_toArray, List.set_cons_zero, List.set_cons_succ])
      have ce := hB0.cell
      have fe := hB0.frozen
      have b1 := hB0.set_ 0 (.int .i64 st)
      have b2 := b1.set_ 1 (.slice A1 n1 c1)
      have k1 := RowsKept.set (X := w2.heap.size) hB0 (by decide) (by decide) 0 (.int .i64 st)
      have k2 := RowsKept.set (X := w2.heap.size) b1 (by decide) (by decide) 1 (.slice A1 n1 c1)
      have k3 := RowsKept.set (X := w2.heap.size) b2 (by decide) (by decide) 2 (.slice A2 n2 c2)
      have HTF := Lib.hid (HTW.out _ (((krA.trans k1).trans k2).trans k3))
      have hle := Nat.le_refl w.heap.size
      have HKF := Lib.hid (((hk0.setCell (p := ⟨w.heap.size, 0, none⟩) hle (.int .i64 st)).setCell (p := ⟨w.heap.size, 1, none⟩) hle (.slice A1 n1 c1)).setCell (p := ⟨w.heap.size, 2, none⟩) hle (.slice A2 n2 c2))
      have hnE : E ≠ w.heap.size := by omega
      have hBF := ((hBE.far (p := ⟨w.heap.size, 0, none⟩) hnE (.int .i64 st)).far (p := ⟨w.heap.size, 1, none⟩) hnE (.slice A1 n1 c1)).far (p := ⟨w.heap.size, 2, none⟩) hnE (.slice A2 n2 c2)
      have hoF := own_farT (by decide) b2 (own_farT (by decide) b1 (own_farT (by decide) hB0 hoW 0 (.int .i64 st)) 1 (.slice A1 n1 c1)) 2 (.slice A2 n2 c2)
      clear b1 b2 k1 k2 k3 hle hB0 hBE krA hk0 hoW
      (refine wpAnyH_ready (rs := [3]) (by kernel_rfl) (by simp) ?_; refine AllReadyH.cons rfl (fun K hK => ?_) AllReadyH.nil; go_simp)
      (refine hK.out _ _ (⟨hBF.cell 0, hBF.cell 1, hBF.cell 2⟩) (fun _ => ?_); clear hK K; try simp only [Act.put, List.setIfInBounds_toArray, List.set_cons_zero, List.set_cons_succ])
      (refine take_val (i := 4) (v := .slice A4 n4 c4) rfl rfl (by kernel_rfl) (by kernel_rfl) (by kernel_rfl) (fun _ _ _ h => h) rfl (by intro wq hq; (try go_split_ands); go_simp; try with_reducible rfl) (⟨hBF.cell 0, hBF.cell 1, hBF.cell 2⟩) ?_; try simp only [List.setIfInBounds_toArray, List.set_cons_zero, List.set_cons_succ])
      refine wpAnyH_done (by kernel_rfl) ?_ _
      clear hBF
      have HOF := Lib.hid hoF
      clear hoF
      go_wp2_with fail
      refine bodyPost_ret (v := .tuple #[.agg #[.int .i64 st, .slice A1 n1 c1, .slice A2 n2 c2], .slice A4 n4 c4]) (by simp [results, Tryd.results23, go_sem, ce]) rfl ?_
      exact ⟨_, rfl, ⟨_, t, _, _, _, l4, rfl, HTF.out, own_ints2 (by omega) HOF.out hin4⟩, HKF.out⟩
  · have h40i : ¬ (n1 : Int) < 40 := by omega
    go_wp2_with fail
    clear ge
    have hdz := (Kept.refl w4).drew
    replace hk0 := hk0.trans hdz
    replace hB0 := hB0.kept hdz
    replace hBE := hBE.kept hdz
    replace krA := krA.trans (RowsKept.of_kept (X := w2.heap.size) hdz)
    have hRd := hR.keep hdz
    clear hdz hR
    refine wp_region_held_drew (S := fun w' => w'.cell? ⟨E, 0, none⟩ = some (.int .i64 st) ∧ w'.cell? ⟨E, 1, none⟩ = some (.slice A1 n1 c1) ∧ w'.cell? ⟨E, 2, none⟩ = some (.slice A2 n2 c2)) (by kernel_rfl) ⟨hBE.cell 0, hBE.cell 1, hBE.cell 2⟩ (fun hHeld => ?_)
    obtain ⟨W0, HW0⟩ : ∃ x, Hid (w4.drew = x) := ⟨_, rfl⟩
    rw [HW0.out] at hk0 hB0 hBE krA hHeld hRd
    rw [HW0.out]
    (refine take_val (i := 0) (v := .agg #[.int .i64 st, .slice A1 n1 c1, .slice A2 n2 c2]) rfl rfl (by kernel_rfl) (by kernel_rfl) (by kernel_rfl) (fun _ _ _ h => h) rfl (by intro wq hq; (try go_split_ands); go_simp; try with_reducible rfl) (hHeld) ?_; try simp only [List.setIfInBounds_toArray, List.set_cons_zero, List.set_cons_succ])
    (refine take_val (i := 1) (v := .pointer (some ⟨R, 0, none⟩)) rfl rfl (by kernel_rfl) (by kernel_rfl) (by kernel_rfl) (fun _ _ _ h => h) rfl (by intro wq hq; (try go_split_ands); go_simp; try with_reducible rfl) (hHeld) ?_; try simp only [List.setIfInBounds_toArray, List.set_cons_zero, List.set_cons_succ])
    clear hHeld
    (refine wpAnyH_ready (rs := [2]) (by kernel_rfl) (by simp) ?_; refine AllReadyH.cons rfl (fun K hK => ?_) AllReadyH.nil; go_simp)
    have hRl0 := hRd.lt
    have hsz0 := hk0.size
    refine (c_l20Code3 R p3 _ hRd (by omega)).mono ?_; rintro e W1 ⟨v, p9, rfl, hR9, hp9, hp9', hb9, A4, n4, c4, l4, rfl, hn4, hoW, hin4⟩
    replace hBE := hb9.blk hBE (.inr (by omega))
    replace hk0 := hb9.kept hk0 (by omega)
    replace hB0 := hb9.blk hB0 (.inl (by omega))
    replace krA := krA.trans (RowsKept.of_but (X := w2.heap.size) hb9 hRlt)
    clear hb9 hR9 hRd
    (refine hK.out _ _ (⟨hBE.cell 0, hBE.cell 1, hBE.cell 2⟩) (fun _ => ?_); clear hK K; try simp only [Act.put, List.setIfInBounds_toArray, List.set_cons_zero, List.set_cons_succ])
    have ce := hB0.cell
    have fe := hB0.frozen
    have b1 := hB0.set_ 0 (.int .i64 st)
    have b2 := b1.set_ 1 (.slice A1 n1 c1)
    have k1 := RowsKept.set (X := w2.heap.size) hB0 (by decide) (by decide) 0 (.int .i64 st)
    have k2 := RowsKept.set (X := w2.heap.size) b1 (by decide) (by decide) 1 (.slice A1 n1 c1)
    have k3 := RowsKept.set (X := w2.heap.size) b2 (by decide) (by decide) 2 (.slice A2 n2 c2)
    have HTF := Lib.hid (HTW.out _ (((krA.trans k1).trans k2).trans k3))
    have hle := Nat.le_refl w.heap.size
    have HKF := Lib.hid (((hk0.setCell (p := ⟨w.heap.size, 0, none⟩) hle (.int .i64 st)).setCell (p := ⟨w.heap.size, 1, none⟩) hle (.slice A1 n1 c1)).setCell (p := ⟨w.heap.size, 2, none⟩) hle (.slice A2 n2 c2))
    have hnE : E ≠ w.heap.size := by omega
    have hBF := ((hBE.far (p := ⟨w.heap.size, 0, none⟩) hnE (.int .i64 st)).far (p := ⟨w.heap.size, 1, none⟩) hnE (.slice A1 n1 c1)).far (p := ⟨w.heap.size, 2, none⟩) hnE (.slice A2 n2 c2)
    have hoF := own_farT (by decide) b2 (own_farT (by decide) b1 (own_farT (by decide) hB0 hoW 0 (.int .i64 st)) 1 (.slice A1 n1 c1)) 2 (.slice A2 n2 c2)
    clear b1 b2 k1 k2 k3 hle hB0 hBE krA hk0 hoW
    (refine wpAnyH_ready (rs := [3]) (by kernel_rfl) (by simp) ?_; refine AllReadyH.cons rfl (fun K hK => ?_) AllReadyH.nil; go_simp)
    (refine hK.out _ _ (⟨hBF.cell 0, hBF.cell 1, hBF.cell 2⟩) (fun _ => ?_); clear hK K; try simp only [Act.put, List.setIfInBounds_toArray, List.set_cons_zero, List.set_cons_succ])
    (refine take_val (i := 4) (v := .slice A4 n4 c4) rfl rfl (by kernel_rfl) (by kernel_rfl) (by kernel_rfl) (fun _ _ _ h => h) rfl (by intro wq hq; (try go_split_ands); go_simp; try with_reducible rfl) (⟨hBF.cell 0, hBF.cell 1, hBF.cell 2⟩) ?_; try simp only [List.setIfInBounds_toArray, List.set_cons_zero, List.set_cons_succ])
    refine wpAnyH_done (by kernel_rfl) ?_ _
    clear hBF
    have HOF := Lib.hid hoF
    clear hoF
    go_wp2_with fail
    refine bodyPost_ret (v := .tuple #[.agg #[.int .i64 st, .slice A1 n1 c1, .slice A2 n2 c2], .slice A4 n4 c4]) (by simp [results, Tryd.results23, go_sem, ce]) rfl ?_
    exact ⟨_, rfl, ⟨_, t, _, _, _, l4, rfl, HTF.out, own_ints2 (by omega) HOF.out hin4⟩, HKF.out⟩

end Go.Proofs.YtphdojebdclonaaDoor
