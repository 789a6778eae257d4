/- The law FnExactNeeded, walked. No condition. -/
import Derived.Test.YtphdojebdclonaaG45
import Derived.Test.YtphdojebdclonaaG46
import Derived.Test.YtphdojebdclonaaHar
import Derived.Deep.RegionHeld3
namespace Go.Proofs.Ytphdojebdclonaa
open Go.RowKit

set_option maxHeartbeats 1000000 in
set_option maxRecDepth 100000 in
theorem l_Needed (v : Value) (t : Sp.Task) (w : World) (h : TaskV w v t) :
    Calls Try.prog 3 #[v] w (RetK (.bool true) w) := by
  obtain ⟨A, n, c, A', n', c', rfl⟩ := h.form
  have hk0 := (Kept.refl w).alloc (.cells #[.int .i64 t.start, .slice A n c, .slice A' n' c'] 25)
  have hT := h.keep hk0
  have B0 := Blk.new w 25 #[.int .i64 t.start, .slice A n c, .slice A' n' c']
  obtain ⟨l, HLst⟩ : ∃ l, Hid (Sp.needed t = l) := ⟨_, rfl⟩
  have hll : l.length ≤ 1073741824 := by rw [← HLst.out]; exact needed_len t
  go_enter Try.func3, Try.ntmps3
  go_wp2_with fail
  refine (c_szTask _ t _ _ hT (by omega) (by omega)).mono ?_; rintro e w1 ⟨v, rfl, ⟨r, rfl, hr⟩, hk1⟩
  replace B0 := B0.kept hk1
  replace hT := hT.keep hk1
  replace hk0 := hk0.trans hk1
  clear hk1
  have c0 := B0.cell
  have HR := Lib.hid hr
  clear hr
  by_cases hr : r < 0
  · go_wp2_with fail
    go_ret
    exact ⟨rfl, hk0⟩
  have hm : ∀ m ∈ lens t, m ≤ 1048576 := fun m hm => by
    rcases HR.out with h | h
    · omega
    · have := h.2.2 m hm; omega
  have HM := Lib.hid hm
  have hgl : t.goal.length ≤ 1048576 := hm _ (by simp [lens])
  have hdl : t.deeds.length ≤ 1048576 := hm _ (by simp [lens])
  have HNL := Lib.hid (show ∀ d ∈ t.deeds, d.need.length ≤ 1048576 from fun d hd => hm _ (by simp only [lens, List.mem_cons]; exact .inr (.inr (List.mem_map.2 ⟨d, hd, rfl⟩))))
  clear HR hm
  go_wp2_with fail
  refine (c_toTask _ t _ hT HM.out).mono ?_; rintro e w2 ⟨v, rfl, ⟨g1, g2, rfl, _, _, hN⟩, hk2⟩
  have hN' := hN.here (Nat.le_refl _)
  replace B0 := B0.kept hk2
  replace hT := hT.keep hk2
  replace hk0 := hk0.trans hk2
  clear hk2 hN c0
  have c0 := B0.cell
  go_wp2_with fail
  refine (c_sNeeded _ t _ hN' (capOk_same _ _ _ _)).mono ?_; rintro e w3 ⟨v, rfl, ⟨A0, cc0, rfl, hW⟩, hk3⟩
  rw [HLst.out] at hW ⊢
  replace B0 := B0.kept hk3
  replace hT := hT.keep hk3
  replace hk0 := hk0.trans hk3
  clear hk3 hN' c0
  have c0 := B0.cell
  go_wp2_with fail
  refine (c_toTask _ t _ hT HM.out).mono ?_; rintro e w4 ⟨v, rfl, ⟨g3, g4, rfl, ⟨hg3, hOT⟩, hg4, hN⟩, hk4⟩
  have hk5 := hk4.alloc (.cells #[.int .i64 t.start, .slice (some ⟨g3, 0, none⟩) t.goal.length t.goal.length, .slice (some ⟨g4, 0, none⟩) t.deeds.length t.deeds.length] 30)
  have B1 := Blk.new w4 30 #[.int .i64 t.start, .slice (some ⟨g3, 0, none⟩) t.goal.length t.goal.length, .slice (some ⟨g4, 0, none⟩) t.deeds.length t.deeds.length]
  have hX := (hN.here (Nat.le_refl _)).keep ((Kept.refl w4).alloc (.cells #[.int .i64 t.start, .slice (some ⟨g3, 0, none⟩) t.goal.length t.goal.length, .slice (some ⟨g4, 0, none⟩) t.deeds.length t.deeds.length] 30))
  obtain ⟨hOg, hOd⟩ := hOT.here (Nat.le_refl _)
  have hSg := (hOg.sh hg3 hOg.1).but (But.of_kept (B := w3.heap.size) (C := w4.heap.size) ((Kept.refl w4).alloc (.cells #[.int .i64 t.start, .slice (some ⟨g3, 0, none⟩) t.goal.length t.goal.length, .slice (some ⟨g4, 0, none⟩) t.deeds.length t.deeds.length] 30)))
  have hSd := (hOd.sh (Nat.le_refl _) HNL.out).but (But.of_kept (B := w3.heap.size) (C := w4.heap.size) ((Kept.refl w4).alloc (.cells #[.int .i64 t.start, .slice (some ⟨g3, 0, none⟩) t.goal.length t.goal.length, .slice (some ⟨g4, 0, none⟩) t.deeds.length t.deeds.length] 30)))
  have hs3 := hk0.size
  have hlt3 : w.heap.size < w3.heap.size := B0.lt
  have hs4 := hk4.size
  replace hW := hW.keep hk5
  replace B0 := B0.kept hk5
  replace hT := hT.keep hk5
  replace hk0 := hk0.trans hk5
  clear hk4 hk5 hN c0 hOg hOd hOT
  have c0 := B0.cell
  have c1 := B1.cell
  go_wp2_with fail
  refine (c_iNeeded _ t _ hX).mono ?_; rintro e wi ⟨v, rfl, ⟨A1, cc1, rfl, hG⟩, hk5⟩
  rw [HLst.out] at hG ⊢
  simp only [World.size_alloc] at hG
  replace hW := hW.keep hk5
  replace B0 := B0.kept hk5
  replace B1 := B1.kept hk5
  replace hT := hT.keep hk5
  replace hX := hX.keep hk5
  replace hSg := hSg.but (But.of_kept (B := w3.heap.size) (C := w4.heap.size) hk5)
  replace hSd := hSd.but (But.of_kept (B := w3.heap.size) (C := w4.heap.size) hk5)
  replace hk0 := hk0.trans hk5
  clear c0 c1
  have hs5 := hk5.size
  simp only [World.size_alloc] at hs5
  obtain ⟨C5, HC5⟩ : ∃ C5, Hid (wi.heap.size = C5) := ⟨_, rfl⟩
  rw [HC5.out] at hG hs5
  clear hk5
  go_wp2_with fail
  refine (c_eqIntS _ _ _ _ _ _ _ _ _ hG.1 hW.1 rfl).mono ?_; rintro e w5 ⟨rfl, hk6'⟩
  replace hW := hW.keep hk6'
  replace hG := hG.keep hk6'
  replace B0 := B0.kept hk6'
  replace B1 := B1.kept hk6'
  replace hT := hT.keep hk6'
  replace hX := hX.keep hk6'
  replace hSg := hSg.but (But.of_kept (B := w3.heap.size) (C := w4.heap.size) hk6')
  replace hSd := hSd.but (But.of_kept (B := w3.heap.size) (C := w4.heap.size) hk6')
  replace hk0 := hk0.trans hk6'
  clear hk6' HC5
  have c0 := B0.cell
  have c1 := B1.cell
  go_wp2_with fail
  have HS : Hid (∀ w', Kept w5 w' → (w'.cell? ⟨w.heap.size, 0, none⟩ = some (.int .i64 t.start) ∧ w'.cell? ⟨w.heap.size, 1, none⟩ = some (.slice A n c) ∧ w'.cell? ⟨w.heap.size, 2, none⟩ = some (.slice A' n' c') ∧
      w'.cell? ⟨w4.heap.size, 0, none⟩ = some (.int .i64 t.start) ∧ w'.cell? ⟨w4.heap.size, 1, none⟩ = some (.slice (some ⟨g3, 0, none⟩) t.goal.length t.goal.length) ∧
      w'.cell? ⟨w4.heap.size, 2, none⟩ = some (.slice (some ⟨g4, 0, none⟩) t.deeds.length t.deeds.length) ∧ Kept w5 w')) :=
    fun w' hk => ⟨(B0.kept hk).cell 0, (B0.kept hk).cell 1, (B0.kept hk).cell 2, (B1.kept hk).cell 0, (B1.kept hk).cell 1, (B1.kept hk).cell 2, hk⟩
  clear c0 c1
  go_region_held3 (fun w' => w'.cell? ⟨w.heap.size, 0, none⟩ = some (.int .i64 t.start) ∧ w'.cell? ⟨w.heap.size, 1, none⟩ = some (.slice A n c) ∧ w'.cell? ⟨w.heap.size, 2, none⟩ = some (.slice A' n' c') ∧
      w'.cell? ⟨w4.heap.size, 0, none⟩ = some (.int .i64 t.start) ∧ w'.cell? ⟨w4.heap.size, 1, none⟩ = some (.slice (some ⟨g3, 0, none⟩) t.goal.length t.goal.length) ∧
      w'.cell? ⟨w4.heap.size, 2, none⟩ = some (.slice (some ⟨g4, 0, none⟩) t.deeds.length t.deeds.length) ∧ Kept w5 w')
    (first | exact HS.out _ (Kept.refl _) | exact HS.out _ (Kept.refl _).drew | exact HS.out _ (Kept.trans (by assumption) hk6) | exact HS.out _ (Kept.trans (by assumption) hk7))
    (first | (go_at_call 11; go_split_ands; refine (c_toTask _ t _ (hT.keep (by assumption)) HM.out).mono ?_; rintro e w6 ⟨v, rfl, ⟨g5, g6, rfl, _, _, hN6⟩, hk6⟩) | (go_at_call 14; go_split_ands; refine (c_eqTask _ _ t t _ (hX.keep (by assumption)) (hN6.here (Nat.le_refl _)) rfl).mono ?_; rintro e w7 ⟨rfl, hk7⟩))
  all_goals
    go_split_ands
    have hk8 : Kept w5 w7 := by assumption
    have B2 := B0.kept hk8
    have B3 := B1.kept hk8
    have hT2 := hT.keep hk8
    have hW2 := hW.keep hk8
    have hG2 := hG.keep hk8
    have hSg2 := hSg.but (But.of_kept (B := w3.heap.size) (C := w4.heap.size) hk8)
    have hSd2 := hSd.but (But.of_kept (B := w3.heap.size) (C := w4.heap.size) hk8)
    have hk9 := hk0.trans hk8
    clear hk8
    have c0 := B2.cell
    have c1 := B3.cell
    go_wp2_with fail
    refine (c_markTask w3.heap.size w4.heap.size _ _ _ _ _ _ _ _ _ hSg2 hSd2 (by omega) (by omega) (by omega) (by omega)).mono ?_; rintro e w9 ⟨k4, rfl, hk41, _, hb9⟩
    replace hk9 := hb9.kept hk9 hs3
    replace B2 := hb9.blk B2 (.inl hlt3)
    replace hW2 := hW2.but hb9 (.inl (Nat.le_refl _))
    replace hG2 := hG2.but hb9 (.inr (by omega))
    clear c0 c1 B3 hSg2 hSd2 hb9
    go_wp2_with fail
    refine (c_eqIntS _ _ _ _ _ _ _ _ _ hG2.1 hW2.1 rfl).mono ?_; rintro e wa ⟨rfl, hka⟩
    replace hW2 := hW2.keep hka
    replace hG2 := hG2.keep hka
    replace B2 := B2.kept hka
    replace hk9 := hk9.trans hka
    clear hka
    go_wp2_with fail
    refine (c_markIntS (w4.heap.size + 1) C5 _ _ _ _ _ hG2.sh (by omega) (by omega) (by omega)).mono ?_; rintro e wb ⟨rfl, hbb, hMk⟩
    replace hk9 := hbb.kept hk9 (by omega)
    replace hW2 := hW2.but hbb (.inl (by omega))
    replace B2 := hbb.blk B2 (.inl (by omega))
    clear hbb
    have c0 := B2.cell
    go_wp2_with (first | (go_at_call 17; refine (c_heldIntS _ _ _ _ _ hMk (by omega) (by omega) (by omega)).mono ?_; rintro e w' ⟨rfl, rfl⟩))
    refine (c_toTask _ t _ (h.keep hk9) HM.out).mono ?_; rintro e wc ⟨v, rfl, ⟨g7, g8, rfl, _, _, hN7⟩, hkc⟩
    have hN8 := hN7.here (Nat.le_refl _)
    replace hW2 := hW2.keep hkc
    replace hMk := hMk.keep hkc
    replace hk9 := hk9.trans hkc
    clear hkc c0 hN7 B2
    go_wp2_with fail
    refine (c_iNeeded _ t _ hN8).mono ?_; rintro e wd ⟨v, rfl, ⟨A2, cc2, rfl, hG3⟩, hkd⟩
    rw [HLst.out] at hG3 ⊢
    replace hW2 := hW2.keep hkd
    replace hMk := hMk.keep hkd
    replace hk9 := hk9.trans hkd
    clear hkd hN8
    go_wp2_with fail
    refine (c_eqIntS _ _ _ _ _ _ _ _ _ hG3.1 hW2.1 rfl).mono ?_; rintro e we ⟨rfl, hke⟩
    replace hMk := hMk.keep hke
    replace hk9 := hk9.trans hke
    go_wp2_with (first | (go_at_call 17; refine (c_heldIntS _ _ _ _ _ hMk (by omega) (by omega) (by omega)).mono ?_; rintro e w' ⟨rfl, rfl⟩))
    go_ret
    exact ⟨rfl, hk9⟩

end Go.Proofs.Ytphdojebdclonaa
