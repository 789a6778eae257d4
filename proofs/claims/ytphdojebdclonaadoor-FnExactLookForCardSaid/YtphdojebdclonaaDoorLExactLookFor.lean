/- The law FnExactLookFor, walked. No condition. -/
import Derived.Test.YtphdojebdclonaaDoorG44
import Derived.Test.YtphdojebdclonaaDoorHar
import Derived.Deep.RegionHeld3
namespace Go.Proofs.YtphdojebdclonaaDoor
open Go.RowKit

set_option maxHeartbeats 1000000 in
set_option maxRecDepth 100000 in
theorem l_LookFor (v : Value) (t : Sp.Task) (A5 : Option Addr) (n5 c5 : Nat) (l : List Int) (w : World) (h : TaskV w v t) (hI : Ints w A5 n5 l) (hg : ErrG w) :
    Calls Tryd.prog 4 #[v, .slice A5 n5 c5] w (RetK (.bool true) w) := by
  obtain ⟨A, n, c, A', n', c', rfl⟩ := h.form
  have hk0 := (Kept.refl w).alloc (.cells #[.int .i64 t.start, .slice A n c, .slice A' n' c'] 37)
  have hT := h.keep hk0
  have hL := hI.keep hk0
  have B0 := Blk.new w 37 #[.int .i64 t.start, .slice A n c, .slice A' n' c']
  have HG := Lib.hid hg
  have HLn := Lib.hid hI.len
  clear hg hI
  by_cases hn5 : 1048576 < n5
  · have hn6 : (1048576 : Int) < (n5 : Int) := by omega
    go_enter Tryd.func4, Tryd.ntmps4
    go_wp2_with fail
    go_ret
    exact ⟨rfl, hk0⟩
  have hn6 : ¬ (1048576 : Int) < (n5 : Int) := by omega
  go_enter Tryd.func4, Tryd.ntmps4
  go_wp2_with fail
  refine (c_szTask _ t _ _ hT (by omega) (by omega)).mono ?_; rintro e w1 ⟨v, rfl, ⟨r, rfl, hr⟩, hk1⟩
  replace B0 := B0.kept hk1
  replace hT := hT.keep hk1
  replace hL := hL.keep hk1
  replace hk0 := hk0.trans hk1
  clear hk1
  have c0 := B0.cell
  have HR := Lib.hid hr
  clear hr
  by_cases hr : r < 0
  · go_wp2_with fail
    go_ret
    exact ⟨rfl, hk0⟩
  have hm : ∀ m ∈ lens t, m ≤ 1048576 := fun m hm => by
    rcases HR.out with h | h
    · omega
    · have := h.2.2 m hm; omega
  have HM := Lib.hid hm
  clear HR hm
  go_wp2_with fail
  refine (c_toTask _ t _ hT HM.out).mono ?_; rintro e w2 ⟨v, rfl, ⟨g1, g2, rfl, _, _, hN⟩, hk2⟩
  have hN' := hN.here (Nat.le_refl _)
  replace B0 := B0.kept hk2
  replace hT := hT.keep hk2
  replace hL := hL.keep hk2
  replace hk0 := hk0.trans hk2
  clear hk2 hN c0
  have c0 := B0.cell
  go_wp2_with fail
  refine (c_toIntS _ _ c5 _ _ hL (by omega)).mono ?_; rintro e w3 ⟨v, rfl, ⟨g7, rfl, _, hO7⟩, hk3⟩
  replace B0 := B0.kept hk3
  replace hT := hT.keep hk3
  replace hL := hL.keep hk3
  replace hN' := hN'.keep hk3
  replace hk0 := hk0.trans hk3
  clear hk3 c0
  go_wp2_with fail
  refine (c_sLookFor _ t _ _ _ _ _ hN' hO7.ints).mono ?_; rintro e w4 ⟨rfl, hk4⟩
  replace B0 := B0.kept hk4
  replace hT := hT.keep hk4
  replace hL := hL.keep hk4
  replace hk0 := hk0.trans hk4
  clear hk4 hN' hO7
  have c0 := B0.cell
  go_wp2_with fail
  refine (c_toTask _ t _ hT HM.out).mono ?_; rintro e w5 ⟨v, rfl, ⟨g3, g4, rfl, _, _, hN⟩, hk5⟩
  have hk6 := hk5.alloc (.cells #[.int .i64 t.start, .slice (some ⟨g3, 0, none⟩) t.goal.length t.goal.length, .slice (some ⟨g4, 0, none⟩) t.deeds.length t.deeds.length] 26)
  have B1 := Blk.new w5 26 #[.int .i64 t.start, .slice (some ⟨g3, 0, none⟩) t.goal.length t.goal.length, .slice (some ⟨g4, 0, none⟩) t.deeds.length t.deeds.length]
  have hX := (hN.here (Nat.le_refl _)).keep ((Kept.refl w5).alloc (.cells #[.int .i64 t.start, .slice (some ⟨g3, 0, none⟩) t.goal.length t.goal.length, .slice (some ⟨g4, 0, none⟩) t.deeds.length t.deeds.length] 26))
  replace B0 := B0.kept hk6
  replace hT := hT.keep hk6
  replace hL := hL.keep hk6
  replace hk0 := hk0.trans hk6
  clear hk5 hk6 hN c0
  go_wp2_with fail
  refine (c_toIntS _ _ c5 _ _ hL (by omega)).mono ?_; rintro e w6 ⟨v, rfl, ⟨g8, rfl, _, hO8⟩, hk7⟩
  replace B0 := B0.kept hk7
  replace B1 := B1.kept hk7
  replace hT := hT.keep hk7
  replace hL := hL.keep hk7
  replace hX := hX.keep hk7
  replace hk0 := hk0.trans hk7
  clear hk7
  have c0 := B0.cell
  have c1 := B1.cell
  go_wp2_with fail
  refine (c_iLookFor _ t _ _ _ _ _ hX hO8.ints (HG.out.keep hk0)).mono ?_; rintro e w7 ⟨rfl, hk5⟩
  replace B0 := B0.kept hk5
  replace B1 := B1.kept hk5
  replace hT := hT.keep hk5
  replace hL := hL.keep hk5
  replace hX := hX.keep hk5
  replace hO8 := hO8.keep hk5
  replace hk0 := hk0.trans hk5
  clear hk5 c0 c1
  have c0 := B0.cell
  have c1 := B1.cell
  go_wp2_with fail
  have HS : Hid (∀ w', Kept w7 w' → (w'.cell? ⟨w.heap.size, 0, none⟩ = some (.int .i64 t.start) ∧ w'.cell? ⟨w.heap.size, 1, none⟩ = some (.slice A n c) ∧ w'.cell? ⟨w.heap.size, 2, none⟩ = some (.slice A' n' c') ∧
      w'.cell? ⟨w5.heap.size, 0, none⟩ = some (.int .i64 t.start) ∧ w'.cell? ⟨w5.heap.size, 1, none⟩ = some (.slice (some ⟨g3, 0, none⟩) t.goal.length t.goal.length) ∧
      w'.cell? ⟨w5.heap.size, 2, none⟩ = some (.slice (some ⟨g4, 0, none⟩) t.deeds.length t.deeds.length) ∧ Kept w7 w')) :=
    fun w' hk => ⟨(B0.kept hk).cell 0, (B0.kept hk).cell 1, (B0.kept hk).cell 2, (B1.kept hk).cell 0, (B1.kept hk).cell 1, (B1.kept hk).cell 2, hk⟩
  clear c0 c1
  go_region_held3 (fun w' => w'.cell? ⟨w.heap.size, 0, none⟩ = some (.int .i64 t.start) ∧ w'.cell? ⟨w.heap.size, 1, none⟩ = some (.slice A n c) ∧ w'.cell? ⟨w.heap.size, 2, none⟩ = some (.slice A' n' c') ∧
      w'.cell? ⟨w5.heap.size, 0, none⟩ = some (.int .i64 t.start) ∧ w'.cell? ⟨w5.heap.size, 1, none⟩ = some (.slice (some ⟨g3, 0, none⟩) t.goal.length t.goal.length) ∧
      w'.cell? ⟨w5.heap.size, 2, none⟩ = some (.slice (some ⟨g4, 0, none⟩) t.deeds.length t.deeds.length) ∧ Kept w7 w')
    (first | exact HS.out _ (Kept.refl _) | exact HS.out _ (Kept.refl _).drew | exact HS.out _ (Kept.trans (by assumption) hk6) | exact HS.out _ (Kept.trans (by assumption) hk7))
    (first | (go_at_call 18; go_split_ands; refine (c_toTask _ t _ (hT.keep (by assumption)) HM.out).mono ?_; rintro e w6 ⟨v, rfl, ⟨g5, g6, rfl, _, _, hN6⟩, hk6⟩) | (go_at_call 21; go_split_ands; refine (c_eqTask _ _ t t _ (hX.keep (by assumption)) (hN6.here (Nat.le_refl _)) rfl).mono ?_; rintro e w7 ⟨rfl, hk7⟩))
  all_goals
    go_split_ands
    go_wp2_with fail
    refine (c_toIntS _ _ c5 _ _ (hL.keep (by assumption)) (by omega)).mono ?_; rintro e w8 ⟨v, rfl, ⟨g9, rfl, _, hO9⟩, hk8⟩
    go_wp2_with fail
    refine (c_eqIntS _ _ _ _ _ _ _ _ _ ((hO8.keep (by assumption)).keep hk8).ints hO9.ints rfl).mono ?_; rintro e w9 ⟨rfl, hk9⟩
    go_wp2_with fail
    go_ret
    exact ⟨rfl, ((hk0.trans (by assumption)).trans hk8).trans hk9⟩

end Go.Proofs.YtphdojebdclonaaDoor
