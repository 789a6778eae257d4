/- Walks: ShadowBound. No condition. -/
import Derived.Test.YtjmpfemlihjibaaG16
import Derived.Test.YtjmpfemlihjibaaTake
namespace Go.Proofs.Ytjmpfemlihjibaa
open Go.RowKit

def Sp.shadowBound (t : Sp.Task) (q : Int) : Int := if Sp.taskOk t = true ∧ Sp.stOk q = true then Sp.dist (Sp.relS t q.toNat) (Sp.endS t q.toNat) t.start.toNat else -1
theorem shadowSteps_yes {t : Sp.Task} {q : Int} (h1 : Sp.taskOk t = true) (h2 : Sp.stOk q = true) : (Sp.shadowSteps t q).length = 32 ∧ (Sp.shadowSteps t q).getD t.start.toNat default = Sp.shadowBound t q := by
  obtain ⟨hs0, hs1⟩ := Sp.taskOk_start h1
  unfold Sp.shadowSteps Sp.shadowBound
  rw [if_pos ⟨h1, h2⟩, if_pos ⟨h1, h2⟩, distList_at _ _ _ (by omega)]
  exact ⟨distList_len _ _, rfl⟩
/-- a cell of a list that a call made -/
theorem OI.cell {B C : Nat} {w : World} {A : Option Addr} {l : List Int} (h : OI B C w A l) {k : Nat} (hk : k < l.length) : ∃ g, A = some ⟨g, 0, none⟩ ∧ w.cell? ⟨g, k, none⟩ = some (.int .i64 (l.getD k default)) := by
  obtain ⟨g, e, _, _, hw⟩ := h.2 (by omega)
  exact ⟨g, e, (hw.row (by omega)).2.2 k hk⟩

theorem c_sShadowBound (v : Value) (t : Sp.Task) (q : Int) (w : World) (h : TaskV w v t) : Calls Try.prog 39 #[v, .int .i64 q] w (RetK (.int .i64 (Sp.shadowBound t q)) w) := by
  obtain ⟨A, n, c, A', n', c', rfl⟩ := h.form
  have hk0 := (Kept.refl w).alloc (.cells #[.int .i64 t.start, .slice A n c, .slice A' n' c'] 26)
  have hT := h.keep hk0
  have B0 := Blk.new w 26 #[.int .i64 t.start, .slice A n c, .slice A' n' c']
  go_enter Try.func39, Try.ntmps39
  go_wp2_with fail
  refine (c_sShadowSteps _ t q _ hT).mono ?_; rintro e w3 ⟨v, rfl, ⟨A4, c4, rfl, hO⟩, hk3⟩
  replace hk0 := hk0.trans hk3
  replace B0 := B0.kept hk3
  clear hk3
  have c0 := B0.cell
  by_cases hok : Sp.taskOk t = true ∧ Sp.stOk q = true
  · obtain ⟨h32, hv⟩ := shadowSteps_yes hok.1 hok.2
    obtain ⟨hs0, hs1⟩ := Sp.taskOk_start hok.1
    obtain ⟨st, hst⟩ := Int.eq_ofNat_of_zero_le hs0
    obtain ⟨g, rfl, c9⟩ := hO.cell (k := t.start.toNat) (by omega)
    rw [hv] at c9
    generalize Sp.shadowBound t q = x at *
    rw [h32]
    rw [hst, Int.toNat_natCast] at c9
    rw [hst] at c0 hs1
    have HST := Lib.hid hst
    clear hst hok h32 hv hO
    go_wp2_with fail
    go_ret
    exact ⟨rfl, hk0⟩
  · have HE : Hid (Sp.shadowBound t q = -1) := by show _ = _; unfold Sp.shadowBound; rw [if_neg hok]
    have h0 : (Sp.shadowSteps t q).length = 0 := by unfold Sp.shadowSteps; rw [if_neg hok]; rfl
    rw [h0]
    clear h0 hok hO
    go_wp2_with fail
    go_ret
    exact ⟨ret_int HE.out.symm, hk0⟩

theorem c_iShadowBound (v : Value) (t : Sp.Task) (q : Int) (w : World) (h : TaskV w v t) : Calls Try.prog 38 #[v, .int .i64 q] w (RetK (.int .i64 (Sp.shadowBound t q)) w) := by
  obtain ⟨A, n, c, A', n', c', rfl⟩ := h.form
  have hk0 := (Kept.refl w).alloc (.cells #[.int .i64 t.start, .slice A n c, .slice A' n' c'] 26)
  have hT := h.keep hk0
  have B0 := Blk.new w 26 #[.int .i64 t.start, .slice A n c, .slice A' n' c']
  go_enter Try.func38, Try.ntmps38
  go_wp2_with fail
  refine (c_iTaskValid _ t _ hT).mono ?_; rintro e w2 ⟨rfl, hk2⟩
  replace hk0 := hk0.trans hk2
  replace B0 := B0.kept hk2
  replace hT := hT.keep hk2
  clear hk2
  have c0 := B0.cell
  cases ht : Sp.taskOk t
  · have HE : Hid (Sp.shadowBound t q = -1) := by show _ = _; unfold Sp.shadowBound; rw [ht]; simp
    clear ht
    go_wp2_with fail
    go_ret
    exact ⟨ret_int HE.out.symm, hk0⟩
  cases hq : Sp.stOk q
  · have HE : Hid (Sp.shadowBound t q = -1) := by show _ = _; unfold Sp.shadowBound; rw [hq]; simp
    have HQ := Lib.hid hq
    clear ht hq
    go_wp2_with (first | (go_at_call 72; refine (c_stateOk q _).mono ?_; rintro e w3 ⟨rfl, rfl⟩; rw [HQ.out]))
    go_ret
    exact ⟨ret_int HE.out.symm, hk0⟩
  have HQ := Lib.hid hq
  have h32 := Lib.hid (shadowSteps_yes ht hq)
  obtain ⟨hs0, hs1⟩ := Sp.taskOk_start ht
  obtain ⟨st, hst⟩ := Int.eq_ofNat_of_zero_le hs0
  have HST := Lib.hid hst
  clear ht hq
  have HS : Hid (∀ w', Kept w2 w' → (w'.cell? ⟨w.heap.size, 0, none⟩ = some (.int .i64 st) ∧ w'.cell? ⟨w.heap.size, 1, none⟩ = some (.slice A n c) ∧ w'.cell? ⟨w.heap.size, 2, none⟩ = some (.slice A' n' c') ∧ Kept w2 w')) :=
    fun w' hk => ⟨by rw [← HST.out]; exact (B0.kept hk).cell 0, (B0.kept hk).cell 1, (B0.kept hk).cell 2, hk⟩
  rw [hst] at c0 hs1
  rw [HST.out] at hT
  go_wp2_with (first | (go_at_call 72; refine (c_stateOk q _).mono ?_; rintro e w3 ⟨rfl, rfl⟩; rw [HQ.out]))
  clear hst
  have hb0 : (0 : Int) ≤ (st : Int) := by omega
  have hb1 : (st : Int) < 32 := by omega
  refine wp_region_held_drew (S := fun w' => w'.cell? ⟨w.heap.size, 0, none⟩ = some (.int .i64 st) ∧ w'.cell? ⟨w.heap.size, 1, none⟩ = some (.slice A n c) ∧ w'.cell? ⟨w.heap.size, 2, none⟩ = some (.slice A' n' c') ∧ Kept w2 w') (by kernel_rfl) (HS.out _ (Kept.refl _).drew) (fun hHeld => ?_)
  (refine take_val (i := 0) (v := .agg #[.int .i64 st, .slice A n c, .slice A' n' c']) rfl rfl (by kernel_rfl) (by kernel_rfl) (by kernel_rfl) (fun _ _ _ h => h) rfl (by intro wq hq; (try go_split_ands); go_simp; try with_reducible rfl) (hHeld) ?_; simp only [List.setIfInBounds_toArray, List.set_cons_zero, List.set_cons_succ])
  (refine take_val (i := 1) (v := .int .i64 q) rfl rfl (by kernel_rfl) (by kernel_rfl) (by kernel_rfl) (fun _ _ _ h => h) rfl (by intro wq hq; (try go_split_ands); go_simp; try with_reducible rfl) (hHeld) ?_; simp only [List.setIfInBounds_toArray, List.set_cons_zero, List.set_cons_succ])
  (refine take_val (i := 3) (v := .pointer (some ⟨w.heap.size, 0, none⟩)) rfl rfl (by kernel_rfl) (by kernel_rfl) (by kernel_rfl) (fun _ _ _ h => h) rfl (by intro wq hq; (try go_split_ands); go_simp; try with_reducible rfl) (hHeld) ?_; simp only [List.setIfInBounds_toArray, List.set_cons_zero, List.set_cons_succ])
  (refine take_val (i := 4) (v := .int .i64 st) rfl rfl (by kernel_rfl) (by kernel_rfl) (by kernel_rfl) (fun _ _ _ h => h) rfl (by intro wq hq; (try go_split_ands); go_simp; try with_reducible rfl) (hHeld) ?_; simp only [List.setIfInBounds_toArray, List.set_cons_zero, List.set_cons_succ])
  (refine wpAnyH_ready (rs := [2]) (by kernel_rfl) (by simp) ?_; refine AllReadyH.cons rfl (fun K hK => ?_) AllReadyH.nil; go_simp)
  refine (c_iShadowSteps _ t q _ (hT.keep (Kept.refl _).drew)).mono ?_; rintro e w6 ⟨v, rfl, ⟨A4, c4, rfl, hO⟩, hk6⟩
  obtain ⟨g, rfl, c9⟩ := hO.cell (k := st) (by have := h32.out.1; omega)
  have hS6 := HS.out _ ((Kept.refl _).drew.trans hk6)
  have HV : Hid ((Sp.shadowSteps t q).getD st default = Sp.shadowBound t q) := by show _ = _; rw [← h32.out.2, HST.out, Int.toNat_natCast]
  rw [h32.out.1]
  rw [HV.out] at c9
  (refine hK.out _ _ (hS6) (fun _ => ?_); clear hK K; try simp only [Act.put, List.setIfInBounds_toArray, List.set_cons_zero, List.set_cons_succ])
  (refine take_val (i := 5) (v := .pointer (some ⟨g, st, none⟩)) rfl rfl (by kernel_rfl) (by kernel_rfl) (by kernel_rfl) (fun _ _ _ h => h) rfl (by intro wq hq; (try go_split_ands); go_simp; try with_reducible rfl) (hS6) ?_; simp only [List.setIfInBounds_toArray, List.set_cons_zero, List.set_cons_succ])
  (refine wpAnyH_ready (rs := [6]) (by kernel_rfl) (by simp) ?_; refine AllReadyH.cons rfl (fun K hK => ?_) AllReadyH.nil; go_simp)
  (refine hK.out _ _ (hS6) (fun _ => ?_); clear hK K; try simp only [Act.put, List.setIfInBounds_toArray, List.set_cons_zero, List.set_cons_succ])
  (refine take_val (i := 7) (v := .int .i64 (Sp.shadowBound t q)) rfl rfl (by kernel_rfl) (by kernel_rfl) (by kernel_rfl) (fun _ _ _ h => h) rfl (by intro wq hq; (try go_split_ands); go_simp; try with_reducible rfl) (hS6) ?_; simp only [List.setIfInBounds_toArray, List.set_cons_zero, List.set_cons_succ])
  refine wpAnyH_done (by kernel_rfl) ?_ _
  go_wp2_with fail
  go_ret
  exact ⟨rfl, hk0.trans hS6.2.2.2⟩

end Go.Proofs.Ytjmpfemlihjibaa
