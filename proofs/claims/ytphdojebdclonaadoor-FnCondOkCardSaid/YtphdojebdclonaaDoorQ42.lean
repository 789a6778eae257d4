/- Joined texts. No condition. -/
import Derived.Test.YtphdojebdclonaaDoorQ41
/- Walks: CondOk of both. No condition. -/
namespace Go.Proofs.YtphdojebdclonaaDoor
set_option linter.unusedSimpArgs false
set_option linter.unusedVariables false
open Go.RowKit

/-- whether the states of a code prove it -/
def Sp.condOk (t : Sp.Task) (l : List Int) : Bool := Sp.codeOk l && Sp.closedOk t (Sp.codeTruth l)

set_option maxHeartbeats 1000000 in
set_option maxRecDepth 100000 in
theorem c_iCondOk (v : Value) (t : Sp.Task) (A2 : Option Addr) (n2 c2 : Nat) (l : List Int) (w : World) (h : TaskV w v t) (hI : Ints w A2 n2 l) (hg : ErrG w) : Calls Tryd.prog 24 #[v, .slice A2 n2 c2] w (RetK (.bool (Sp.condOk t l)) w) := by
  obtain ⟨A, n, c, A', n', c', rfl⟩ := h.form
  have hk0 := (Kept.refl w).alloc (.cells #[.int .i64 t.start, .slice A n c, .slice A' n' c'] 26)
  have B0 := Blk.new w 26 #[.int .i64 t.start, .slice A n c, .slice A' n' c']
  have hT := h.keep hk0
  have hL := hI.keep hk0
  have HG := Lib.hid hg
  clear hg hI h
  go_enter Tryd.func24, Tryd.ntmps24
  go_wp2_with fail
  obtain ⟨w2, HW⟩ : ∃ w2, Hid (w.alloc (.cells #[.int .i64 t.start, .slice A n c, .slice A' n' c'] 26) = w2) := ⟨_, rfl⟩
  rw [HW.out] at hk0 B0 hT hL ⊢
  have hdz := (Kept.refl w2).drew
  replace B0 := B0.kept hdz
  replace hk0 := hk0.trans hdz
  replace hT := hT.keep hdz
  replace hL := hL.keep hdz
  refine wp_region_held_drew (S := fun w' => w'.cell? ⟨w.heap.size, 0, none⟩ = some (.int .i64 t.start) ∧ w'.cell? ⟨w.heap.size, 1, none⟩ = some (.slice A n c) ∧ w'.cell? ⟨w.heap.size, 2, none⟩ = some (.slice A' n' c')) (by kernel_rfl) ⟨B0.cell 0, B0.cell 1, B0.cell 2⟩ (fun hHeld => ?_)
  clear hdz
  (refine take_val (i := 0) (v := .slice A2 n2 c2) rfl rfl (by kernel_rfl) (by kernel_rfl) (by kernel_rfl) (fun _ _ _ h => h) rfl (by intro wq hq; (try go_split_ands); go_simp; try with_reducible rfl) (hHeld) ?_; try simp only [List.setIfInBounds_toArray, List.set_cons_zero, List.set_cons_succ])
  (refine wpAnyH_ready (rs := [1]) (by kernel_rfl) (by simp) ?_; refine AllReadyH.cons rfl (fun K hK => ?_) AllReadyH.nil; go_simp)
  refine (c_iCodeValid A2 n2 c2 l _ hL).mono ?_; rintro e w3 ⟨rfl, rfl⟩
  (refine hK.out _ _ (hHeld) (fun _ => ?_); clear hK K; try simp only [Act.put, List.setIfInBounds_toArray, List.set_cons_zero, List.set_cons_succ])
  cases hc : Sp.codeOk l
  · have HE : Hid (Sp.condOk t l = false) := by show _ = _; unfold Sp.condOk; rw [hc]; rfl
    clear hc
    (refine take_val (i := 2) (v := .bool false) rfl rfl (by kernel_rfl) (by kernel_rfl) (by kernel_rfl) (fun _ _ _ h => h) rfl (by intro wq hq; (try go_split_ands); go_simp; try with_reducible rfl) (hHeld) ?_; try simp only [List.setIfInBounds_toArray, List.set_cons_zero, List.set_cons_succ])
    (refine take_skip (i := 3) rfl rfl (by kernel_rfl) (by kernel_rfl) (by kernel_rfl) (fun _ _ _ h => h) rfl (hHeld) ?_; try simp only [List.setIfInBounds_toArray, List.set_cons_zero, List.set_cons_succ])
    (refine take_skip (i := 4) rfl rfl (by kernel_rfl) (by kernel_rfl) (by kernel_rfl) (fun _ _ _ h => h) rfl (hHeld) ?_; try simp only [List.setIfInBounds_toArray, List.set_cons_zero, List.set_cons_succ])
    (refine take_skip (i := 5) rfl rfl (by kernel_rfl) (by kernel_rfl) (by kernel_rfl) (fun _ _ _ h => h) rfl (hHeld) ?_; try simp only [List.setIfInBounds_toArray, List.set_cons_zero, List.set_cons_succ])
    (refine take_skip (i := 6) rfl rfl (by kernel_rfl) (by kernel_rfl) (by kernel_rfl) (fun _ _ _ h => h) rfl (hHeld) ?_; try simp only [List.setIfInBounds_toArray, List.set_cons_zero, List.set_cons_succ])
    (refine take_val (i := 7) (v := .bool false) rfl rfl (by kernel_rfl) (by kernel_rfl) (by kernel_rfl) (fun _ _ _ h => h) rfl (by intro wq hq; (try go_split_ands); go_simp; try with_reducible rfl) (hHeld) ?_; try simp only [List.setIfInBounds_toArray, List.set_cons_zero, List.set_cons_succ])
    (refine take_val (i := 8) (v := .bool false) rfl rfl (by kernel_rfl) (by kernel_rfl) (by kernel_rfl) (fun _ _ _ h => h) rfl (by intro wq hq; (try go_split_ands); go_simp; try with_reducible rfl) (hHeld) ?_; try simp only [List.setIfInBounds_toArray, List.set_cons_zero, List.set_cons_succ])
    refine wpAnyH_done (by kernel_rfl) ?_ _
    clear hHeld
    go_wp2_with fail
    go_ret
    exact ⟨ret_bool HE.out.symm, hk0⟩
  · have HE : Hid (Sp.condOk t l = Sp.closedOk t (Sp.codeTruth l)) := by show _ = _; unfold Sp.condOk; rw [hc]; rfl
    clear hc
    (refine take_val (i := 2) (v := .bool true) rfl rfl (by kernel_rfl) (by kernel_rfl) (by kernel_rfl) (fun _ _ _ h => h) rfl (by intro wq hq; (try go_split_ands); go_simp; try with_reducible rfl) (hHeld) ?_; try simp only [List.setIfInBounds_toArray, List.set_cons_zero, List.set_cons_succ])
    (refine take_val (i := 3) (v := .agg #[.int .i64 t.start, .slice A n c, .slice A' n' c']) rfl rfl (by kernel_rfl) (by kernel_rfl) (by kernel_rfl) (fun _ _ _ h => h) rfl (by intro wq hq; (try go_split_ands); go_simp; try with_reducible rfl) (hHeld) ?_; try simp only [List.setIfInBounds_toArray, List.set_cons_zero, List.set_cons_succ])
    (refine take_val (i := 4) (v := .slice A2 n2 c2) rfl rfl (by kernel_rfl) (by kernel_rfl) (by kernel_rfl) (fun _ _ _ h => h) rfl (by intro wq hq; (try go_split_ands); go_simp; try with_reducible rfl) (hHeld) ?_; try simp only [List.setIfInBounds_toArray, List.set_cons_zero, List.set_cons_succ])
    (refine wpAnyH_ready (rs := [5]) (by kernel_rfl) (by simp) ?_; refine AllReadyH.cons rfl (fun K hK => ?_) AllReadyH.nil; go_simp)
    refine (c_iCodeTruth _ _ _ _ _ hL).mono ?_; rintro e w4 ⟨rfl, hk4⟩
    replace hk0 := hk0.trans hk4
    replace B0 := B0.kept hk4
    replace hT := hT.keep hk4
    clear hk4 hHeld hL
    have hHeld : w4.cell? ⟨w.heap.size, 0, none⟩ = some (.int .i64 t.start) ∧ w4.cell? ⟨w.heap.size, 1, none⟩ = some (.slice A n c) ∧ w4.cell? ⟨w.heap.size, 2, none⟩ = some (.slice A' n' c') := ⟨B0.cell 0, B0.cell 1, B0.cell 2⟩
    (refine hK.out _ _ (hHeld) (fun _ => ?_); clear hK K; try simp only [Act.put, List.setIfInBounds_toArray, List.set_cons_zero, List.set_cons_succ])
    (refine wpAnyH_ready (rs := [6]) (by kernel_rfl) (by simp) ?_; refine AllReadyH.cons rfl (fun K hK => ?_) AllReadyH.nil; go_simp)
    refine (c_iClosedOk _ t _ _ hT (HG.out.keep hk0)).mono ?_; rintro e w5 ⟨rfl, hk5⟩
    replace hk0 := hk0.trans hk5
    replace B0 := B0.kept hk5
    clear hk5 hHeld hT
    obtain ⟨b, Hb⟩ : ∃ b, Hid (Sp.closedOk t (Sp.codeTruth l) = b) := ⟨_, rfl⟩
    rw [Hb.out] at HE ⊢
    have hHeld : w5.cell? ⟨w.heap.size, 0, none⟩ = some (.int .i64 t.start) ∧ w5.cell? ⟨w.heap.size, 1, none⟩ = some (.slice A n c) ∧ w5.cell? ⟨w.heap.size, 2, none⟩ = some (.slice A' n' c') := ⟨B0.cell 0, B0.cell 1, B0.cell 2⟩
    (refine hK.out _ _ (hHeld) (fun _ => ?_); clear hK K; try simp only [Act.put, List.setIfInBounds_toArray, List.set_cons_zero, List.set_cons_succ])
    (refine take_val (i := 7) (v := .bool b) rfl rfl (by kernel_rfl) (by kernel_rfl) (by kernel_rfl) (fun _ _ _ h => h) rfl (by intro wq hq; (try go_split_ands); go_simp; try with_reducible rfl) (hHeld) ?_; try simp only [List.setIfInBounds_toArray, List.set_cons_zero, List.set_cons_succ])
    (refine take_val (i := 8) (v := .bool b) rfl rfl (by kernel_rfl) (by kernel_rfl) (by kernel_rfl) (fun _ _ _ h => h) rfl (by intro wq hq; (try go_split_ands); go_simp; try with_reducible rfl) (hHeld) ?_; try simp only [List.setIfInBounds_toArray, List.set_cons_zero, List.set_cons_succ])
    refine wpAnyH_done (by kernel_rfl) ?_ _
    clear hHeld
    go_wp2_with fail
    go_ret
    exact ⟨ret_bool HE.out.symm, hk0⟩

set_option maxHeartbeats 1000000 in
set_option maxRecDepth 100000 in
theorem c_sCondOk (v : Value) (t : Sp.Task) (A2 : Option Addr) (n2 c2 : Nat) (l : List Int) (w : World) (h : TaskV w v t) (hI : Ints w A2 n2 l) : Calls Tryd.prog 25 #[v, .slice A2 n2 c2] w (RetK (.bool (Sp.condOk t l)) w) := by
  obtain ⟨A, n, c, A', n', c', rfl⟩ := h.form
  have hk0 := (Kept.refl w).alloc (.cells #[.int .i64 t.start, .slice A n c, .slice A' n' c'] 26)
  have B0 := Blk.new w 26 #[.int .i64 t.start, .slice A n c, .slice A' n' c']
  have hT := h.keep hk0
  have hL := hI.keep hk0
  clear hI h
  go_enter Tryd.func25, Tryd.ntmps25
  go_wp2_with fail
  obtain ⟨w2, HW⟩ : ∃ w2, Hid (w.alloc (.cells #[.int .i64 t.start, .slice A n c, .slice A' n' c'] 26) = w2) := ⟨_, rfl⟩
  rw [HW.out] at hk0 B0 hT hL ⊢
  have hdz := (Kept.refl w2).drew
  replace B0 := B0.kept hdz
  replace hk0 := hk0.trans hdz
  replace hT := hT.keep hdz
  replace hL := hL.keep hdz
  refine wp_region_held_drew (S := fun w' => w'.cell? ⟨w.heap.size, 0, none⟩ = some (.int .i64 t.start) ∧ w'.cell? ⟨w.heap.size, 1, none⟩ = some (.slice A n c) ∧ w'.cell? ⟨w.heap.size, 2, none⟩ = some (.slice A' n' c')) (by kernel_rfl) ⟨B0.cell 0, B0.cell 1, B0.cell 2⟩ (fun hHeld => ?_)
  clear hdz
  (refine take_val (i := 0) (v := .slice A2 n2 c2) rfl rfl (by kernel_rfl) (by kernel_rfl) (by kernel_rfl) (fun _ _ _ h => h) rfl (by intro wq hq; (try go_split_ands); go_simp; try with_reducible rfl) (hHeld) ?_; try simp only [List.setIfInBounds_toArray, List.set_cons_zero, List.set_cons_succ])
  (refine wpAnyH_ready (rs := [1]) (by kernel_rfl) (by simp) ?_; refine AllReadyH.cons rfl (fun K hK => ?_) AllReadyH.nil; go_simp)
  refine (c_sCodeValid A2 n2 c2 l _ hL).mono ?_; rintro e w3 ⟨rfl, rfl⟩
  (refine hK.out _ _ (hHeld) (fun _ => ?_); clear hK K; try simp only [Act.put, List.setIfInBounds_toArray, List.set_cons_zero, List.set_cons_succ])
  cases hc : Sp.codeOk l
  · have HE : Hid (Sp.condOk t l = false) := by show _ = _; unfold Sp.condOk; rw [hc]; rfl
    clear hc
    (refine take_val (i := 2) (v := .bool false) rfl rfl (by kernel_rfl) (by kernel_rfl) (by kernel_rfl) (fun _ _ _ h => h) rfl (by intro wq hq; (try go_split_ands); go_simp; try with_reducible rfl) (hHeld) ?_; try simp only [List.setIfInBounds_toArray, List.set_cons_zero, List.set_cons_succ])
    (refine take_skip (i := 3) rfl rfl (by kernel_rfl) (by kernel_rfl) (by kernel_rfl) (fun _ _ _ h => h) rfl (hHeld) ?_; try simp only [List.setIfInBounds_toArray, List.set_cons_zero, List.set_cons_succ])
    (refine take_skip (i := 4) rfl rfl (by kernel_rfl) (by kernel_rfl) (by kernel_rfl) (fun _ _ _ h => h) rfl (hHeld) ?_; try simp only [List.setIfInBounds_toArray, List.set_cons_zero, List.set_cons_succ])
    (refine take_skip (i := 5) rfl rfl (by kernel_rfl) (by kernel_rfl) (by kernel_rfl) (fun _ _ _ h => h) rfl (hHeld) ?_; try simp only [List.setIfInBounds_toArray, List.set_cons_zero, List.set_cons_succ])
    (refine take_skip (i := 6) rfl rfl (by kernel_rfl) (by kernel_rfl) (by kernel_rfl) (fun _ _ _ h => h) rfl (hHeld) ?_; try simp only [List.setIfInBounds_toArray, List.set_cons_zero, List.set_cons_succ])
    (refine take_val (i := 7) (v := .bool false) rfl rfl (by kernel_rfl) (by kernel_rfl) (by kernel_rfl) (fun _ _ _ h => h) rfl (by intro wq hq; (try go_split_ands); go_simp; try with_reducible rfl) (hHeld) ?_; try simp only [List.setIfInBounds_toArray, List.set_cons_zero, List.set_cons_succ])
    (refine take_val (i := 8) (v := .bool false) rfl rfl (by kernel_rfl) (by kernel_rfl) (by kernel_rfl) (fun _ _ _ h => h) rfl (by intro wq hq; (try go_split_ands); go_simp; try with_reducible rfl) (hHeld) ?_; try simp only [List.setIfInBounds_toArray, List.set_cons_zero, List.set_cons_succ])
    refine wpAnyH_done (by kernel_rfl) ?_ _
    clear hHeld
    go_wp2_with fail
    go_ret
    exact ⟨ret_bool HE.out.symm, hk0⟩
  · have HE : Hid (Sp.condOk t l = Sp.closedOk t (Sp.codeTruth l)) := by show _ = _; unfold Sp.condOk; rw [hc]; rfl
    clear hc
    (refine take_val (i := 2) (v := .bool true) rfl rfl (by kernel_rfl) (by kernel_rfl) (by kernel_rfl) (fun _ _ _ h => h) rfl (by intro wq hq; (try go_split_ands); go_simp; try with_reducible rfl) (hHeld) ?_; try simp only [List.setIfInBounds_toArray, List.set_cons_zero, List.set_cons_succ])
    (refine take_val (i := 3) (v := .agg #[.int .i64 t.start, .slice A n c, .slice A' n' c']) rfl rfl (by kernel_rfl) (by kernel_rfl) (by kernel_rfl) (fun _ _ _ h => h) rfl (by intro wq hq; (try go_split_ands); go_simp; try with_reducible rfl) (hHeld) ?_; try simp only [List.setIfInBounds_toArray, List.set_cons_zero, List.set_cons_succ])
    (refine take_val (i := 4) (v := .slice A2 n2 c2) rfl rfl (by kernel_rfl) (by kernel_rfl) (by kernel_rfl) (fun _ _ _ h => h) rfl (by intro wq hq; (try go_split_ands); go_simp; try with_reducible rfl) (hHeld) ?_; try simp only [List.setIfInBounds_toArray, List.set_cons_zero, List.set_cons_succ])
    (refine wpAnyH_ready (rs := [5]) (by kernel_rfl) (by simp) ?_; refine AllReadyH.cons rfl (fun K hK => ?_) AllReadyH.nil; go_simp)
    refine (c_sCodeTruth _ _ _ _ _ hL).mono ?_; rintro e w4 ⟨rfl, hk4⟩
    replace hk0 := hk0.trans hk4
    replace B0 := B0.kept hk4
    replace hT := hT.keep hk4
    clear hk4 hHeld hL
    have hHeld : w4.cell? ⟨w.heap.size, 0, none⟩ = some (.int .i64 t.start) ∧ w4.cell? ⟨w.heap.size, 1, none⟩ = some (.slice A n c) ∧ w4.cell? ⟨w.heap.size, 2, none⟩ = some (.slice A' n' c') := ⟨B0.cell 0, B0.cell 1, B0.cell 2⟩
    (refine hK.out _ _ (hHeld) (fun _ => ?_); clear hK K; try simp only [Act.put, List.setIfInBounds_toArray, List.set_cons_zero, List.set_cons_succ])
    (refine wpAnyH_ready (rs := [6]) (by kernel_rfl) (by simp) ?_; refine AllReadyH.cons rfl (fun K hK => ?_) AllReadyH.nil; go_simp)
    refine (c_sClosedOk _ t _ _ hT).mono ?_; rintro e w5 ⟨rfl, hk5⟩
    replace hk0 := hk0.trans hk5
    replace B0 := B0.kept hk5
    clear hk5 hHeld hT
    obtain ⟨b, Hb⟩ : ∃ b, Hid (Sp.closedOk t (Sp.codeTruth l) = b) := ⟨_, rfl⟩
    rw [Hb.out] at HE ⊢
    have hHeld : w5.cell? ⟨w.heap.size, 0, none⟩ = some (.int .i64 t.start) ∧ w5.cell? ⟨w.heap.size, 1, none⟩ = some (.slice A n c) ∧ w5.cell? ⟨w.heap.size, 2, none⟩ = some (.slice A' n' c') := ⟨B0.cell 0, B0.cell 1, B0.cell 2⟩
    (refine hK.out _ _ (hHeld) (fun _ => ?_); clear hK K; try simp only [Act.put, List.setIfInBounds_toArray, List.set_cons_zero, List.set_cons_succ])
    (refine take_val (i := 7) (v := .bool b) rfl rfl (by kernel_rfl) (by kernel_rfl) (by kernel_rfl) (fun _ _ _ h => h) rfl (by intro wq hq; (try go_split_ands); go_simp; try with_reducible rfl) (hHeld) ?_; try simp only [List.setIfInBounds_toArray, List.set_cons_zero, List.set_cons_succ])
    (refine take_val (i := 8) (v := .bool b) rfl rfl (by kernel_rfl) (by kernel_rfl) (by kernel_rfl) (fun _ _ _ h => h) rfl (by intro wq hq; (try go_split_ands); go_simp; try with_reducible rfl) (hHeld) ?_; try simp only [List.setIfInBounds_toArray, List.set_cons_zero, List.set_cons_succ])
    refine wpAnyH_done (by kernel_rfl) ?_ _
    clear hHeld
    go_wp2_with fail
    go_ret
    exact ⟨ret_bool HE.out.symm, hk0⟩

end Go.Proofs.YtphdojebdclonaaDoor
