/- The law FnExactProofRight, walked. No condition. -/
import Derived.Test.YtphdojebdclonaaGreatDoorQ44
import Derived.Test.YtphdojebdclonaaGreatDoorQ46
import Derived.Test.YtphdojebdclonaaGreatDoorQ3
import Derived.Deep.RegionHeld3
namespace Go.Proofs.YtphdojebdclonaaGreatDoor
set_option linter.unusedSimpArgs false
set_option linter.unusedVariables false
open Go.RowKit

set_option maxRecDepth 100000 in
theorem l_ProofRightX (v : Value) (t : Sp.Task) (s0 : ByteArray) (w : World) (h : TaskV w v t) (_hs : s0.size ≤ maxLen) (hm : ∃ m, w.cell? ⟨1, 0, none⟩ = some (.int .i64 m)) (hg : ErrG w) :
    Calls Tryz.prog 4 #[v, .string s0] w (RetK (.bool true) w) := by
  obtain ⟨s, rfl⟩ : ∃ s : List UInt8, s0 = ⟨s.toArray⟩ := ⟨s0.data.toList, by simp⟩
  obtain ⟨m, hm0⟩ := hm
  obtain ⟨A, n, c, A', n', c', rfl⟩ := h.form
  have hk0 := (Kept.refl w).alloc (.cells #[.int .i64 t.start, .slice A n c, .slice A' n' c'] 37)
  have hT := h.keep hk0
  have B0 := Blk.new w 37 #[.int .i64 t.start, .slice A n c, .slice A' n' c']
  have HG := Lib.hid hg
  have HMx := Lib.hid hm0
  clear hg hm0
  by_cases hbig : (1048576 : Int) < (s.length : Int)
  · go_enter Tryz.func4, Tryz.ntmps4
    go_wp2_with fail
    go_ret
    exact ⟨rfl, hk0⟩
  have hs20 : s.length ≤ 1048576 := by omega
  go_enter Tryz.func4, Tryz.ntmps4
  go_wp2_with fail
  refine (c_szTask _ t _ _ hT (by omega) (by omega)).mono ?_; rintro e w1 ⟨v, rfl, ⟨r, rfl, hr⟩, hk1⟩
  replace B0 := B0.kept hk1
  replace hT := hT.keep hk1
  replace hk0 := hk0.trans hk1
  clear hk1
  have c0 := B0.cell
  have HR := Lib.hid hr
  clear hr
  by_cases hr : r < 0
  · go_wp2_with fail
    go_ret
    exact ⟨rfl, hk0⟩
  have hm : ∀ m ∈ lens t, m ≤ 1048576 := fun m hm => by
    rcases HR.out with h | h
    · omega
    · have := h.2.2 m hm; omega
  have HM := Lib.hid hm
  clear HR hm
  go_wp2_with fail
  refine (c_toTask _ t _ hT HM.out).mono ?_; rintro e w2 ⟨v, rfl, ⟨g1, g2, rfl, _, _, hN⟩, hk2⟩
  have hN' := hN.here (Nat.le_refl _)
  replace B0 := B0.kept hk2
  replace hT := hT.keep hk2
  replace hk0 := hk0.trans hk2
  clear hk2 hN c0
  have c0 := B0.cell
  go_wp2_with fail
  refine (c_sProofRight _ t s _ hN' hs20).mono ?_; rintro e w3 ⟨rfl, hk3⟩
  replace B0 := B0.kept hk3
  replace hT := hT.keep hk3
  replace hk0 := hk0.trans hk3
  clear hk3 hN' c0
  have c0 := B0.cell
  go_wp2_with fail
  refine (c_toTask _ t _ hT HM.out).mono ?_; rintro e w4 ⟨v, rfl, ⟨g3, g4, rfl, _, _, hN⟩, hk4⟩
  have hk5 := hk4.alloc (.cells #[.int .i64 t.start, .slice (some ⟨g3, 0, none⟩) t.goal.length t.goal.length, .slice (some ⟨g4, 0, none⟩) t.deeds.length t.deeds.length] 26)
  have B1 := Blk.new w4 26 #[.int .i64 t.start, .slice (some ⟨g3, 0, none⟩) t.goal.length t.goal.length, .slice (some ⟨g4, 0, none⟩) t.deeds.length t.deeds.length]
  have hX := (hN.here (Nat.le_refl _)).keep ((Kept.refl w4).alloc (.cells #[.int .i64 t.start, .slice (some ⟨g3, 0, none⟩) t.goal.length t.goal.length, .slice (some ⟨g4, 0, none⟩) t.deeds.length t.deeds.length] 26))
  replace B0 := B0.kept hk5
  replace hT := hT.keep hk5
  replace hk0 := hk0.trans hk5
  clear hk4 hk5 hN c0
  have c0 := B0.cell
  have c1 := B1.cell
  go_wp2_with fail
  refine (c_iProofRight _ t s m _ hX hs20 (hk0.at_ HMx.out) (HG.out.keep hk0)).mono ?_; rintro e w5 ⟨rfl, hk5⟩
  replace B0 := B0.kept hk5
  replace B1 := B1.kept hk5
  replace hT := hT.keep hk5
  replace hX := hX.keep hk5
  replace hk0 := hk0.trans hk5
  clear hk5 c0 c1
  have c0 := B0.cell
  have c1 := B1.cell
  go_wp2_with fail
  have HS : Hid (∀ w', Kept w5 w' → (w'.cell? ⟨w.heap.size, 0, none⟩ = some (.int .i64 t.start) ∧ w'.cell? ⟨w.heap.size, 1, none⟩ = some (.slice A n c) ∧ w'.cell? ⟨w.heap.size, 2, none⟩ = some (.slice A' n' c') ∧
      w'.cell? ⟨w4.heap.size, 0, none⟩ = some (.int .i64 t.start) ∧ w'.cell? ⟨w4.heap.size, 1, none⟩ = some (.slice (some ⟨g3, 0, none⟩) t.goal.length t.goal.length) ∧
      w'.cell? ⟨w4.heap.size, 2, none⟩ = some (.slice (some ⟨g4, 0, none⟩) t.deeds.length t.deeds.length) ∧ Kept w5 w')) :=
    fun w' hk => ⟨(B0.kept hk).cell 0, (B0.kept hk).cell 1, (B0.kept hk).cell 2, (B1.kept hk).cell 0, (B1.kept hk).cell 1, (B1.kept hk).cell 2, hk⟩
  clear c0 c1
  go_region_held3 (fun w' => w'.cell? ⟨w.heap.size, 0, none⟩ = some (.int .i64 t.start) ∧ w'.cell? ⟨w.heap.size, 1, none⟩ = some (.slice A n c) ∧ w'.cell? ⟨w.heap.size, 2, none⟩ = some (.slice A' n' c') ∧
      w'.cell? ⟨w4.heap.size, 0, none⟩ = some (.int .i64 t.start) ∧ w'.cell? ⟨w4.heap.size, 1, none⟩ = some (.slice (some ⟨g3, 0, none⟩) t.goal.length t.goal.length) ∧
      w'.cell? ⟨w4.heap.size, 2, none⟩ = some (.slice (some ⟨g4, 0, none⟩) t.deeds.length t.deeds.length) ∧ Kept w5 w')
    (first | exact HS.out _ (Kept.refl _) | exact HS.out _ (Kept.refl _).drew | exact HS.out _ (Kept.trans (by assumption) hk6) | exact HS.out _ (Kept.trans (by assumption) hk7))
    (first | (go_at_call 15; go_split_ands; refine (c_toTask _ t _ (hT.keep (by assumption)) HM.out).mono ?_; rintro e w6 ⟨v, rfl, ⟨g5, g6, rfl, _, _, hN6⟩, hk6⟩) | (go_at_call 16; go_split_ands; refine (c_eqTask _ _ t t _ (hX.keep (by assumption)) (hN6.here (Nat.le_refl _)) rfl).mono ?_; rintro e w7 ⟨rfl, hk7⟩))
  all_goals
    go_split_ands
    go_wp2_with fail
    go_ret
    exact ⟨rfl, hk0.trans (by assumption)⟩

end Go.Proofs.YtphdojebdclonaaGreatDoor
