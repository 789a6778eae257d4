/- The law FnExactProofText, walked. No condition. -/
import Derived.Test.YtphdojebdclonaaDoorT30
import Derived.Test.YtphdojebdclonaaDoorHar
import Derived.Deep.RegionHeld3
import Derived.Lib.SmallJoins
namespace Go.Proofs.YtphdojebdclonaaDoor
set_option linter.unusedSimpArgs false
set_option linter.unusedVariables false
open Go.RowKit

set_option maxRecDepth 100000 in
theorem pow_kept {w w' : World} (h : Lib.TabIs Tryd.prog w "internal/strconv.uint64pow10" .u64 Lib.pow10Tab) (hk : Kept w w') : Lib.TabIs Tryd.prog w' "internal/strconv.uint64pow10" .u64 Lib.pow10Tab :=
  Joins.tab_stays (g := 2) (by kernel_rfl) h hk (Nat.le_refl _)
set_option maxRecDepth 100000 in
theorem l_ProofTextX (v : Value) (t : Sp.Task) (w : World) (h : TaskV w v t) (htab : Lib.TabIs Tryd.prog w "internal/strconv.uint64pow10" .u64 Lib.pow10Tab) :
    Calls Tryd.prog 9 #[v] w (RetK (.bool true) w) := by
  obtain ⟨A, n, c, A', n', c', rfl⟩ := h.form
  have hk0 := (Kept.refl w).alloc (.cells #[.int .i64 t.start, .slice A n c, .slice A' n' c'] 37)
  have hT := h.keep hk0
  have B0 := Blk.new w 37 #[.int .i64 t.start, .slice A n c, .slice A' n' c']
  have HTB := Lib.hid htab
  clear htab
  go_enter Tryd.func9, Tryd.ntmps9
  go_wp2_with fail
  refine (c_szTask _ t _ _ hT (by omega) (by omega)).mono ?_; rintro e w1 ⟨v, rfl, ⟨r, rfl, hr⟩, hk1⟩
  replace B0 := B0.kept hk1
  replace hT := hT.keep hk1
  replace hk0 := hk0.trans hk1
  clear hk1
  have c0 := B0.cell
  have HR := Lib.hid hr
  clear hr
  by_cases hr : r < 0
  · go_wp2_with fail
    go_ret
    exact ⟨rfl, hk0⟩
  have hm : ∀ m ∈ lens t, m ≤ 1048576 := fun m hm => by
    rcases HR.out with h | h
    · omega
    · have := h.2.2 m hm; omega
  have HM := Lib.hid hm
  clear HR hm
  go_wp2_with fail
  refine (c_toTask _ t _ hT HM.out).mono ?_; rintro e w2 ⟨v, rfl, ⟨g1, g2, rfl, _, _, hN⟩, hk2⟩
  have hN' := hN.here (Nat.le_refl _)
  replace B0 := B0.kept hk2
  replace hT := hT.keep hk2
  replace hk0 := hk0.trans hk2
  clear hk2 hN c0
  have c0 := B0.cell
  go_wp2_with fail
  refine (c_sProofText _ t _ hN').mono ?_; rintro e w3 ⟨rfl, hk3⟩
  replace B0 := B0.kept hk3
  replace hT := hT.keep hk3
  replace hk0 := hk0.trans hk3
  clear hk3 hN' c0
  have c0 := B0.cell
  go_wp2_with fail
  refine (c_toTask _ t _ hT HM.out).mono ?_; rintro e w4 ⟨v, rfl, ⟨g3, g4, rfl, _, _, hN⟩, hk4⟩
  have hk5 := hk4.alloc (.cells #[.int .i64 t.start, .slice (some ⟨g3, 0, none⟩) t.goal.length t.goal.length, .slice (some ⟨g4, 0, none⟩) t.deeds.length t.deeds.length] 26)
  have B1 := Blk.new w4 26 #[.int .i64 t.start, .slice (some ⟨g3, 0, none⟩) t.goal.length t.goal.length, .slice (some ⟨g4, 0, none⟩) t.deeds.length t.deeds.length]
  have hX := (hN.here (Nat.le_refl _)).keep ((Kept.refl w4).alloc (.cells #[.int .i64 t.start, .slice (some ⟨g3, 0, none⟩) t.goal.length t.goal.length, .slice (some ⟨g4, 0, none⟩) t.deeds.length t.deeds.length] 26))
  replace B0 := B0.kept hk5
  replace hT := hT.keep hk5
  replace hk0 := hk0.trans hk5
  clear hk4 hk5 hN c0
  have c0 := B0.cell
  have c1 := B1.cell
  go_wp2_with fail
  refine (c_iProofText _ t _ hX (pow_kept HTB.out hk0) (fun _ hk => pow_kept HTB.out (hk0.trans hk))).mono ?_; rintro e w5 ⟨rfl, hk5⟩
  replace B0 := B0.kept hk5
  replace B1 := B1.kept hk5
  replace hT := hT.keep hk5
  replace hX := hX.keep hk5
  replace hk0 := hk0.trans hk5
  clear hk5 c0 c1
  have c0 := B0.cell
  have c1 := B1.cell
  go_wp2_with fail
  have HS : Hid (∀ w', Kept w5 w' → (w'.cell? ⟨w.heap.size, 0, none⟩ = some (.int .i64 t.start) ∧ w'.cell? ⟨w.heap.size, 1, none⟩ = some (.slice A n c) ∧ w'.cell? ⟨w.heap.size, 2, none⟩ = some (.slice A' n' c') ∧
      w'.cell? ⟨w4.heap.size, 0, none⟩ = some (.int .i64 t.start) ∧ w'.cell? ⟨w4.heap.size, 1, none⟩ = some (.slice (some ⟨g3, 0, none⟩) t.goal.length t.goal.length) ∧
      w'.cell? ⟨w4.heap.size, 2, none⟩ = some (.slice (some ⟨g4, 0, none⟩) t.deeds.length t.deeds.length) ∧ Kept w5 w')) :=
    fun w' hk => ⟨(B0.kept hk).cell 0, (B0.kept hk).cell 1, (B0.kept hk).cell 2, (B1.kept hk).cell 0, (B1.kept hk).cell 1, (B1.kept hk).cell 2, hk⟩
  clear c0 c1
  go_region_held3 (fun w' => w'.cell? ⟨w.heap.size, 0, none⟩ = some (.int .i64 t.start) ∧ w'.cell? ⟨w.heap.size, 1, none⟩ = some (.slice A n c) ∧ w'.cell? ⟨w.heap.size, 2, none⟩ = some (.slice A' n' c') ∧
      w'.cell? ⟨w4.heap.size, 0, none⟩ = some (.int .i64 t.start) ∧ w'.cell? ⟨w4.heap.size, 1, none⟩ = some (.slice (some ⟨g3, 0, none⟩) t.goal.length t.goal.length) ∧
      w'.cell? ⟨w4.heap.size, 2, none⟩ = some (.slice (some ⟨g4, 0, none⟩) t.deeds.length t.deeds.length) ∧ Kept w5 w')
    (first | exact HS.out _ (Kept.refl _) | exact HS.out _ (Kept.refl _).drew | exact HS.out _ (Kept.trans (by assumption) hk6) | exact HS.out _ (Kept.trans (by assumption) hk7))
    (first | (go_at_call 18; go_split_ands; refine (c_toTask _ t _ (hT.keep (by assumption)) HM.out).mono ?_; rintro e w6 ⟨v, rfl, ⟨g5, g6, rfl, _, _, hN6⟩, hk6⟩) | (go_at_call 21; go_split_ands; refine (c_eqTask _ _ t t _ (hX.keep (by assumption)) (hN6.here (Nat.le_refl _)) rfl).mono ?_; rintro e w7 ⟨rfl, hk7⟩))
  all_goals
    go_split_ands
    go_wp2_with fail
    go_ret
    exact ⟨rfl, hk0.trans (by assumption)⟩

end Go.Proofs.YtphdojebdclonaaDoor
