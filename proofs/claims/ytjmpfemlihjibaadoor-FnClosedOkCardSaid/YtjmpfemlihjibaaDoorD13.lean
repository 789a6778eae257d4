/- Walks: the draw of a task and a set of states (FnClosedOk). No condition. -/
import Derived.Test.YtjmpfemlihjibaaDoorD10
import Derived.Test.YtjmpfemlihjibaaDoorG25
namespace Go.Proofs.YtjmpfemlihjibaaDoor
open Go.RowKit

theorem own_ints {w : World} {X : Nat} {A : Option Addr} {n c : Nat} {l : List Int} (hn : n ≤ 64) (ho : w.ownsRow X 3 1 (.slice A n c) n (l.map (Value.int .i64))) (hi : ∀ x ∈ l, Sp.inI x) : Ints w A n l := by
  have hl : l.length = n := by have := ho.1; simpa using this
  refine ⟨hl, by unfold maxLen; omega, hi, fun h0 => ?_⟩
  obtain ⟨_, g, rfl, _, h3⟩ := own_row ho h0
  obtain ⟨h4, h5⟩ := h3
  exact ⟨g, 0, rfl, h5.1, fun k hk => by rw [Nat.zero_add]; exact h5.2.2 k hk⟩
/-- what the rows hold, wherever they are kept -/
theorem GRow.own2 {w : World} {X : Nat} {A : Option Addr} {n c : Nat} (h : GRow X w A n c) : ∃ l, ∀ w', IntsKept X w w' → Ints w' A n l := by
  obtain ⟨l, hn, ho, hi⟩ := h
  exact ⟨l, fun w' hk => own_ints hn (hk _ _ _ _ ho) hi⟩
theorem DRow.deeds2 {w : World} {X : Nat} {A : Option Addr} {n c : Nat} (h : DRow X w A n c) (hn : n ≤ 64) : ∃ ds, ∀ w', RowsKept X w w' → Deeds w' A n ds := by
  obtain ⟨xs, ho, hv⟩ := h
  by_cases h0 : 0 < n
  · obtain ⟨_, g, rfl, hg, hgl, _, _⟩ := own_some ho h0
    have hlt : ∀ w', RowsKept X w w' → g < w'.heap.size := fun w' hk => by
      obtain ⟨_, g', e', _, hgl', _, _⟩ := own_some (hk _ _ _ _ _ (.inr rfl) ho) h0
      simp only [Option.some.injEq, Addr.mk.injEq] at e'
      omega
    have hc : ∀ w', RowsKept X w w' → ∀ j u, xs[j]? = some u → w'.cell? ⟨g, j, none⟩ = some u := fun w' hk j u hu => by
      have ho' := hk _ _ _ _ _ (.inr rfl) ho
      rw [ho'.cellAt j (by have := ho'.1; have := (List.getElem?_eq_some_iff.1 hu).1; omega)]
      exact hu
    have hd : ∀ k, ∃ d : Sp.Deed, k < n → ∀ w', RowsKept X w w' → DeedCells w' g (0 + k * 4) d := fun k => by
      by_cases hk : k < n
      · obtain ⟨v0, v1, v2, v3, h0, h1, h2, h3, A, m, c, l, on, off, flip, rfl, rfl, rfl, rfl, hm, hr, hi, i1, i2, i3⟩ := hv k hk
        refine ⟨⟨l, on, off, flip⟩, fun _ w' hkw => ?_⟩
        rw [Nat.zero_add]
        exact ⟨A, m, c, hc w' hkw _ _ h0, own_ints hm (hkw.ints _ _ _ _ hr) hi, hc w' hkw _ _ h1, hc w' hkw _ _ h2, hc w' hkw _ _ h3, i1, i2, i3⟩
      · exact ⟨default, fun h => absurd h hk⟩
    refine ⟨(List.range n).map (fun k => (hd k).choose), fun w' hkw => ⟨by simp, by unfold maxLen; omega, fun _ => ⟨g, 0, rfl, hlt w' hkw, fun k hk => ?_⟩⟩⟩
    have := (hd k).choose_spec hk w' hkw
    simpa [hk] using this
  · exact ⟨[], fun w' _ => ⟨by simp; omega, by unfold maxLen; omega, fun h => absurd h h0⟩⟩
theorem TaskQ.task2 {X : Nat} {v : Value} {w : World} (h : TaskQ X v w) : ∃ t, t.deeds.length ≤ 8 ∧ ∀ w', RowsKept X w w' → TaskV w' v t := by
  obtain ⟨st, A, n, c, A', n', c', rfl, hi, hG, hD, hn⟩ := h
  obtain ⟨l, hI⟩ := hG.own2
  obtain ⟨ds, hDs⟩ := hD.deeds2 (by omega)
  exact ⟨⟨st, l, ds⟩, by rw [(hDs w (RowsKept.of_kept (Kept.refl w))).len]; exact hn, fun w' hk => ⟨A, n, c, A', n', c', rfl, hI w' hk.ints, hDs w' hk, hi⟩⟩

theorem reached_bd (t : Sp.Task) (h : Sp.taskOk t = true) : ∃ S : Nat, Sp.reached t = (S : Int) ∧ S < 4294967296 := by
  refine ⟨Sp.reachedN t, ?_, reachedN_lt h⟩
  unfold Sp.reached
  rw [if_pos h]

set_option maxHeartbeats 1000000 in
set_option maxRecDepth 100000 in
theorem c_drawClosedOk (A : Option Addr) (n c : Nat) (w : World) (h : BytesV w A n ∧ n ≤ c ∧ c ≤ maxLen) : Calls Tryd.prog 31 #[.slice A n c] w (RetS DrawnQ w) := by
  have hk0 := (Kept.refl w).alloc (.cells #[.int .i64 0, .slice none 0 0, .slice none 0 0] 30)
  have hB0 := Blk.new w 30 #[.int .i64 0, .slice none 0 0, .slice none 0 0]
  have hb0 := h.1.keep hk0
  go_enter Tryd.func31, Tryd.ntmps31
  go_wp2_with fail
  refine (c_l20Open A n c _ hb0 h.2.1 h.2.2).mono ?_; rintro e w2 ⟨v, rfl, ⟨R, rfl, hRge, hR⟩, hk2⟩
  simp only [World.size_alloc] at hRge
  replace hk0 := hk0.trans hk2
  replace hB0 := hB0.kept hk2
  clear hk2 hb0
  have hRlt := hR.lt
  go_wp2_with fail
  refine (c_l20Hard R 12 0 _ hR (by omega) (by omega) (by omega)).mono ?_; rintro e w3 ⟨v, p3, rfl, hR3, hp1, hp2, hB, st, A1, n1, c1, A2, n2, c2, rfl, hst, hG, hD, hn2⟩
  replace hk0 := hB.kept hk0 (by omega)
  replace hB0 := hB.blk hB0 (.inl (by omega))
  have hsz3 := hB.size
  clear hB hR
  obtain ⟨t, _, hTW⟩ := TaskQ.task2 ⟨st, A1, n1, c1, A2, n2, c2, rfl, hst, hG, hD, hn2⟩
  have hkE := (Kept.refl w3).alloc (.cells #[.int .i64 st, .slice A1 n1 c1, .slice A2 n2 c2] 30)
  have hBE := Blk.new w3 30 #[.int .i64 st, .slice A1 n1 c1, .slice A2 n2 c2]
  have krE := RowsKept.of_kept (X := w2.heap.size) hkE
  replace hG := hG.kept krE.ints
  replace hD := hD.kept krE
  replace hk0 := hk0.trans hkE
  replace hB0 := hB0.kept hkE
  replace hR3 := hR3.keep hkE
  have hT := hTW _ krE
  have krA := krE
  clear hkE krE
  go_wp2_with fail
  refine (c_sTaskValid _ t _ hT).mono ?_; rintro e w4 ⟨rfl, hk4⟩
  have kr4 := RowsKept.of_kept (X := w2.heap.size) hk4
  replace hG := hG.kept kr4.ints
  replace hD := hD.kept kr4
  replace hk0 := hk0.trans hk4
  replace hB0 := hB0.kept hk4
  replace hBE := hBE.kept hk4
  have hR := hR3.keep hk4
  replace krA := krA.trans kr4
  clear hT
  obtain ⟨E, HE⟩ : ∃ E, Hid (w3.heap.size = E) := ⟨_, rfl⟩
  have hEge : w2.heap.size ≤ w3.heap.size := hsz3
  rw [HE.out] at hBE hEge ⊢
  clear kr4 hk4 hR3
  cases ht : Sp.taskOk t
  · clear ht hTW krA
    go_wp2_with fail
    have hdz := (Kept.refl w4).drew
    have krz := RowsKept.of_kept (X := w2.heap.size) hdz
    replace hBE := hBE.kept hdz
    replace hB0 := hB0.kept hdz
    replace hk0 := hk0.trans hdz
    replace hG := hG.kept krz.ints
    replace hD := hD.kept krz
    replace hR := hR.keep hdz
    clear krz
    refine wp_region_held_drew (S := fun w' => w'.cell? ⟨E, 0, none⟩ = some (.int .i64 st) ∧ w'.cell? ⟨E, 1, none⟩ = some (.slice A1 n1 c1) ∧ w'.cell? ⟨E, 2, none⟩ = some (.slice A2 n2 c2)) (by kernel_rfl) ⟨hBE.cell 0, hBE.cell 1, hBE.cell 2⟩ (fun hHeld => ?_)
    (refine take_val (i := 0) (v := .agg #[.int .i64 st, .slice A1 n1 c1, .slice A2 n2 c2]) rfl rfl (by kernel_rfl) (by kernel_rfl) (by kernel_rfl) (fun _ _ _ h => h) rfl (by intro wq hq; (try go_split_ands); go_simp; try with_reducible rfl) (hHeld) ?_; simp only [List.setIfInBounds_toArray, List.set_cons_zero, List.set_cons_succ])
    (refine take_val (i := 1) (v := .pointer (some ⟨R, 0, none⟩)) rfl rfl (by kernel_rfl) (by kernel_rfl) (by kernel_rfl) (fun _ _ _ h => h) rfl (by intro wq hq; (try go_split_ands); go_simp; try with_reducible rfl) (hHeld) ?_; simp only [List.setIfInBounds_toArray, List.set_cons_zero, List.set_cons_succ])
    clear hdz
    (refine wpAnyH_ready (rs := [2]) (by kernel_rfl) (by simp) ?_; refine AllReadyH.cons rfl (fun K hK => ?_) AllReadyH.nil; go_simp)
    refine (c_l20States R p3 _ hR (by omega)).mono ?_; rintro e wA ⟨v, pA, rfl, hRn, hq1xa, hq2xa, hbn, xa, rfl, xa0, xa1⟩
    replace hBE := hbn.blk hBE (.inr (by omega))
    replace hk0 := hbn.kept hk0 (by omega)
    replace hB0 := hbn.blk hB0 (.inl (by omega))
    replace hG := hG.kept (RowsKept.of_but (X := w2.heap.size) hbn hRlt).ints
    replace hD := hD.kept (RowsKept.of_but (X := w2.heap.size) hbn hRlt)
    clear hbn hRn hR
    have hSxa : wA.cell? ⟨E, 0, none⟩ = some (.int .i64 st) ∧ wA.cell? ⟨E, 1, none⟩ = some (.slice A1 n1 c1) ∧ wA.cell? ⟨E, 2, none⟩ = some (.slice A2 n2 c2) := ⟨hBE.cell 0, hBE.cell 1, hBE.cell 2⟩
    (refine hK.out _ _ (hSxa) (fun _ => ?_); clear hK K; try simp only [Act.put, List.setIfInBounds_toArray, List.set_cons_zero, List.set_cons_succ])
    have ce := hB0.cell
    have fe := hB0.frozen
    have b1 := hB0.set_ 0 (.int .i64 st)
    have b2 := b1.set_ 1 (.slice A1 n1 c1)
    have k1 := RowsKept.set (X := w2.heap.size) hB0 (by decide) (by decide) 0 (.int .i64 st)
    have k2 := RowsKept.set (X := w2.heap.size) b1 (by decide) (by decide) 1 (.slice A1 n1 c1)
    have k3 := RowsKept.set (X := w2.heap.size) b2 (by decide) (by decide) 2 (.slice A2 n2 c2)
    have kk := (k1.trans k2).trans k3
    have hG2 := hG.kept kk.ints
    have hD2 := hD.kept kk
    have hle := Nat.le_refl w.heap.size
    have hkF := ((hk0.setCell (p := ⟨w.heap.size, 0, none⟩) hle (.int .i64 st)).setCell (p := ⟨w.heap.size, 1, none⟩) hle (.slice A1 n1 c1)).setCell (p := ⟨w.heap.size, 2, none⟩) hle (.slice A2 n2 c2)
    have hne : E ≠ w.heap.size := by omega
    have hBF := ((hBE.far (p := ⟨w.heap.size, 0, none⟩) hne (.int .i64 st)).far (p := ⟨w.heap.size, 1, none⟩) hne (.slice A1 n1 c1)).far (p := ⟨w.heap.size, 2, none⟩) hne (.slice A2 n2 c2)
    clear hB0 hBE b1 b2 k1 k2 k3 kk hG hD hk0
    have hSF := (⟨hBF.cell 0, hBF.cell 1, hBF.cell 2⟩ : _ ∧ _ ∧ _)
    (refine wpAnyH_ready (rs := [3]) (by kernel_rfl) (by simp) ?_; refine AllReadyH.cons rfl (fun K hK => ?_) AllReadyH.nil; go_simp)
    (refine hK.out _ _ (hSF) (fun _ => ?_); clear hK K; try simp only [Act.put, List.setIfInBounds_toArray, List.set_cons_zero, List.set_cons_succ])
    (refine take_val (i := 4) (v := .int .i64 xa) rfl rfl (by kernel_rfl) (by kernel_rfl) (by kernel_rfl) (fun _ _ _ h => h) rfl (by intro wq hq; (try go_split_ands); go_simp; try with_reducible rfl) (hSF) ?_; simp only [List.setIfInBounds_toArray, List.set_cons_zero, List.set_cons_succ])
    refine wpAnyH_done (by kernel_rfl) ?_ _
    go_wp2_with fail
    refine bodyPost_ret (v := .tuple #[.agg #[.int .i64 st, .slice A1 n1 c1, .slice A2 n2 c2], .int .i64 xa]) (by simp [results, Tryd.results31, go_sem, ce]) rfl ?_
    obtain ⟨tt, hTT, _⟩ := TaskQ.task ⟨st, A1, n1, c1, A2, n2, c2, rfl, hst, hG2, hD2, hn2⟩
    exact ⟨_, rfl, ⟨_, tt, xa, rfl, hTT, by omega, by omega⟩, hkF⟩
  · go_wp2_with fail
    refine (c_pick R 3 p3 _ hR (by omega) (by omega)).mono ?_; rintro e w5 ⟨v, p4, rfl, hR5, hp3, hp4, hb5, x, rfl, hx0, hx1⟩
    replace hx1 := hx1 (by omega)
    replace hBE := hb5.blk hBE (.inr (by omega))
    replace hk0 := hb5.kept hk0 (by omega)
    replace hB0 := hb5.blk hB0 (.inl (by omega))
    have kr5 := RowsKept.of_but (X := w2.heap.size) hb5 hRlt
    replace hG := hG.kept kr5.ints
    replace hD := hD.kept kr5
    replace hR := hR5
    have hT := hTW _ (krA.trans kr5)
    clear kr5 hb5 hR5 hTW krA
    by_cases hx : x = 0
    · subst hx
      clear hT
      go_wp2_with fail
      have hdz := (Kept.refl w5).drew
      have krz := RowsKept.of_kept (X := w2.heap.size) hdz
      replace hBE := hBE.kept hdz
      replace hB0 := hB0.kept hdz
      replace hk0 := hk0.trans hdz
      replace hG := hG.kept krz.ints
      replace hD := hD.kept krz
      replace hR := hR.keep hdz
      clear krz
      refine wp_region_held_drew (S := fun w' => w'.cell? ⟨E, 0, none⟩ = some (.int .i64 st) ∧ w'.cell? ⟨E, 1, none⟩ = some (.slice A1 n1 c1) ∧ w'.cell? ⟨E, 2, none⟩ = some (.slice A2 n2 c2)) (by kernel_rfl) ⟨hBE.cell 0, hBE.cell 1, hBE.cell 2⟩ (fun hHeld => ?_)
      (refine take_val (i := 0) (v := .agg #[.int .i64 st, .slice A1 n1 c1, .slice A2 n2 c2]) rfl rfl (by kernel_rfl) (by kernel_rfl) (by kernel_rfl) (fun _ _ _ h => h) rfl (by intro wq hq; (try go_split_ands); go_simp; try with_reducible rfl) (hHeld) ?_; simp only [List.setIfInBounds_toArray, List.set_cons_zero, List.set_cons_succ])
      (refine take_val (i := 1) (v := .pointer (some ⟨R, 0, none⟩)) rfl rfl (by kernel_rfl) (by kernel_rfl) (by kernel_rfl) (fun _ _ _ h => h) rfl (by intro wq hq; (try go_split_ands); go_simp; try with_reducible rfl) (hHeld) ?_; simp only [List.setIfInBounds_toArray, List.set_cons_zero, List.set_cons_succ])
      clear hdz
      (refine wpAnyH_ready (rs := [2]) (by kernel_rfl) (by simp) ?_; refine AllReadyH.cons rfl (fun K hK => ?_) AllReadyH.nil; go_simp)
      refine (c_l20States R p4 _ hR (by omega)).mono ?_; rintro e wA ⟨v, pA, rfl, hRn, hq1xa, hq2xa, hbn, xa, rfl, xa0, xa1⟩
      replace hBE := hbn.blk hBE (.inr (by omega))
      replace hk0 := hbn.kept hk0 (by omega)
      replace hB0 := hbn.blk hB0 (.inl (by omega))
      replace hG := hG.kept (RowsKept.of_but (X := w2.heap.size) hbn hRlt).ints
      replace hD := hD.kept (RowsKept.of_but (X := w2.heap.size) hbn hRlt)
      clear hbn hRn hR
      have hSxa : wA.cell? ⟨E, 0, none⟩ = some (.int .i64 st) ∧ wA.cell? ⟨E, 1, none⟩ = some (.slice A1 n1 c1) ∧ wA.cell? ⟨E, 2, none⟩ = some (.slice A2 n2 c2) := ⟨hBE.cell 0, hBE.cell 1, hBE.cell 2⟩
      (refine hK.out _ _ (hSxa) (fun _ => ?_); clear hK K; try simp only [Act.put, List.setIfInBounds_toArray, List.set_cons_zero, List.set_cons_succ])
      have ce := hB0.cell
      have fe := hB0.frozen
      have b1 := hB0.set_ 0 (.int .i64 st)
      have b2 := b1.set_ 1 (.slice A1 n1 c1)
      have k1 := RowsKept.set (X := w2.heap.size) hB0 (by decide) (by decide) 0 (.int .i64 st)
      have k2 := RowsKept.set (X := w2.heap.size) b1 (by decide) (by decide) 1 (.slice A1 n1 c1)
      have k3 := RowsKept.set (X := w2.heap.size) b2 (by decide) (by decide) 2 (.slice A2 n2 c2)
      have kk := (k1.trans k2).trans k3
      have hG2 := hG.kept kk.ints
      have hD2 := hD.kept kk
      have hle := Nat.le_refl w.heap.size
      have hkF := ((hk0.setCell (p := ⟨w.heap.size, 0, none⟩) hle (.int .i64 st)).setCell (p := ⟨w.heap.size, 1, none⟩) hle (.slice A1 n1 c1)).setCell (p := ⟨w.heap.size, 2, none⟩) hle (.slice A2 n2 c2)
      have hne : E ≠ w.heap.size := by omega
      have hBF := ((hBE.far (p := ⟨w.heap.size, 0, none⟩) hne (.int .i64 st)).far (p := ⟨w.heap.size, 1, none⟩) hne (.slice A1 n1 c1)).far (p := ⟨w.heap.size, 2, none⟩) hne (.slice A2 n2 c2)
      clear hB0 hBE b1 b2 k1 k2 k3 kk hG hD hk0
      have hSF := (⟨hBF.cell 0, hBF.cell 1, hBF.cell 2⟩ : _ ∧ _ ∧ _)
      (refine wpAnyH_ready (rs := [3]) (by kernel_rfl) (by simp) ?_; refine AllReadyH.cons rfl (fun K hK => ?_) AllReadyH.nil; go_simp)
      (refine hK.out _ _ (hSF) (fun _ => ?_); clear hK K; try simp only [Act.put, List.setIfInBounds_toArray, List.set_cons_zero, List.set_cons_succ])
      (refine take_val (i := 4) (v := .int .i64 xa) rfl rfl (by kernel_rfl) (by kernel_rfl) (by kernel_rfl) (fun _ _ _ h => h) rfl (by intro wq hq; (try go_split_ands); go_simp; try with_reducible rfl) (hSF) ?_; simp only [List.setIfInBounds_toArray, List.set_cons_zero, List.set_cons_succ])
      refine wpAnyH_done (by kernel_rfl) ?_ _
      go_wp2_with fail
      refine bodyPost_ret (v := .tuple #[.agg #[.int .i64 st, .slice A1 n1 c1, .slice A2 n2 c2], .int .i64 xa]) (by simp [results, Tryd.results31, go_sem, ce]) rfl ?_
      obtain ⟨tt, hTT, _⟩ := TaskQ.task ⟨st, A1, n1, c1, A2, n2, c2, rfl, hst, hG2, hD2, hn2⟩
      exact ⟨_, rfl, ⟨_, tt, xa, rfl, hTT, by omega, by omega⟩, hkF⟩
    · have hxp : 0 < x := by omega
      obtain ⟨S, hS, hSl⟩ := reached_bd t ht
      have HS := Lib.hid hS
      clear hS ht
      have cb := hBE.cell
      have hT5 := hT
      go_wp2_with fail
      refine (c_sReached _ t _ hT5).mono ?_; rintro e w6 ⟨rfl, hk6⟩
      rw [HS.out]
      have kr6 := RowsKept.of_kept (X := w2.heap.size) hk6
      replace hG := hG.kept kr6.ints
      replace hD := hD.kept kr6
      replace hk0 := hk0.trans hk6
      replace hB0 := hB0.kept hk6
      replace hBE := hBE.kept hk6
      replace hR := hR.keep hk6
      clear kr6 hk6 cb hT5 hT
      go_wp2_with fail
      refine (c_pick R 2 p4 _ hR (by omega) (by omega)).mono ?_; rintro e w7 ⟨v, p5, rfl, hR7, hp5, hp6, hb7, y, rfl, hy0, hy1⟩
      replace hy1 := hy1 (by omega)
      replace hBE := hb7.blk hBE (.inr (by omega))
      replace hk0 := hb7.kept hk0 (by omega)
      replace hB0 := hb7.blk hB0 (.inl (by omega))
      have kr7 := RowsKept.of_but (X := w2.heap.size) hb7 hRlt
      replace hG := hG.kept kr7.ints
      replace hD := hD.kept kr7
      replace hR := hR7
      clear kr7 hb7 hR7
      by_cases hy : y = 0
      · subst hy
        go_wp2_with fail
        refine (c_pick R 32 p5 _ hR (by omega) (by omega)).mono ?_; rintro e w8 ⟨v, p6, rfl, hR8, hp7, hp8, hb8, z, rfl, hz0, hz1⟩
        replace hz1 := hz1 (by omega)
        replace hBE := hb8.blk hBE (.inr (by omega))
        replace hk0 := hb8.kept hk0 (by omega)
        replace hB0 := hb8.blk hB0 (.inl (by omega))
        have kr8 := RowsKept.of_but (X := w2.heap.size) hb8 hRlt
        replace hG := hG.kept kr8.ints
        replace hD := hD.kept kr8
        clear kr8 hb8 hR8 hR
        obtain ⟨z, rfl⟩ := Int.eq_ofNat_of_zero_le hz0
        have hsh := bin_shl_one z (by omega)
        have hTT : S ||| 2 ^ z < 4294967296 := Nat.or_lt_two_pow (n := 32) hSl (Nat.pow_lt_pow_right (by decide) (by omega))
        have ce := hB0.cell
        have fe := hB0.frozen
        have cb := hBE.cell
        have b1 := hB0.set_ 0 (.int .i64 st)
        have b2 := b1.set_ 1 (.slice A1 n1 c1)
        have k1 := RowsKept.set (X := w2.heap.size) hB0 (by decide) (by decide) 0 (.int .i64 st)
        have k2 := RowsKept.set (X := w2.heap.size) b1 (by decide) (by decide) 1 (.slice A1 n1 c1)
        have k3 := RowsKept.set (X := w2.heap.size) b2 (by decide) (by decide) 2 (.slice A2 n2 c2)
        have kk := (k1.trans k2).trans k3
        have hG2 := hG.kept kk.ints
        have hD2 := hD.kept kk
        have hle := Nat.le_refl w.heap.size
        have hkF := ((hk0.setCell (p := ⟨w.heap.size, 0, none⟩) hle (.int .i64 st)).setCell (p := ⟨w.heap.size, 1, none⟩) hle (.slice A1 n1 c1)).setCell (p := ⟨w.heap.size, 2, none⟩) hle (.slice A2 n2 c2)
        clear hB0 hBE b1 b2 k1 k2 k3 kk hG hD hk0
        go_wp2_with (first | (go_at_call 72; refine (c_eitherP S z _ hSl (by omega)).mono ?_; rintro e w9 ⟨rfl, rfl⟩))
        refine bodyPost_ret (v := .tuple #[.agg #[.int .i64 st, .slice A1 n1 c1, .slice A2 n2 c2], .int .i64 ((S ||| 2 ^ z : Nat) : Int)]) (by simp [results, Tryd.results31, go_sem, ce]) rfl ?_
        obtain ⟨tt, hTT, _⟩ := TaskQ.task ⟨st, A1, n1, c1, A2, n2, c2, rfl, hst, hG2, hD2, hn2⟩
        exact ⟨_, rfl, ⟨_, tt, _, rfl, hTT, by omega, by omega⟩, hkF⟩
      · have hy2 : (y == 0) = false := beq_eq_false_iff_ne.2 hy
        have ce := hB0.cell
        have fe := hB0.frozen
        have cb := hBE.cell
        have b1 := hB0.set_ 0 (.int .i64 st)
        have b2 := b1.set_ 1 (.slice A1 n1 c1)
        have k1 := RowsKept.set (X := w2.heap.size) hB0 (by decide) (by decide) 0 (.int .i64 st)
        have k2 := RowsKept.set (X := w2.heap.size) b1 (by decide) (by decide) 1 (.slice A1 n1 c1)
        have k3 := RowsKept.set (X := w2.heap.size) b2 (by decide) (by decide) 2 (.slice A2 n2 c2)
        have kk := (k1.trans k2).trans k3
        have hG2 := hG.kept kk.ints
        have hD2 := hD.kept kk
        have hle := Nat.le_refl w.heap.size
        have hkF := ((hk0.setCell (p := ⟨w.heap.size, 0, none⟩) hle (.int .i64 st)).setCell (p := ⟨w.heap.size, 1, none⟩) hle (.slice A1 n1 c1)).setCell (p := ⟨w.heap.size, 2, none⟩) hle (.slice A2 n2 c2)
        clear hB0 hBE b1 b2 k1 k2 k3 kk hG hD hk0
        go_wp2_with fail
        refine bodyPost_ret (v := .tuple #[.agg #[.int .i64 st, .slice A1 n1 c1, .slice A2 n2 c2], .int .i64 (S : Int)]) (by simp [results, Tryd.results31, go_sem, ce]) rfl ?_
        obtain ⟨tt, hTT, _⟩ := TaskQ.task ⟨st, A1, n1, c1, A2, n2, c2, rfl, hst, hG2, hD2, hn2⟩
        exact ⟨_, rfl, ⟨_, tt, _, rfl, hTT, by omega, by omega⟩, hkF⟩

end Go.Proofs.YtjmpfemlihjibaaDoor
