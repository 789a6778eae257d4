/- The law FnExactPlanShort, walked. No condition. -/
import Derived.Test.YtphdojebdclonaaG54
import Derived.Test.YtphdojebdclonaaHar
import Derived.Deep.RegionHeld3
namespace Go.Proofs.Ytphdojebdclonaa
open Go.RowKit

theorem planShort_len (t : Sp.Task) (l : List Int) : (Sp.planShort t l).length ≤ 40 := by
  unfold Sp.planShort
  split
  · rename_i h
    have := (planRun_parts h).2.1
    have := till_len t l 41
    omega
  · simp
theorem short_out {w w' : World} {t : Sp.Task} {l : List Int} {b : Bool} {v : Value} (h : OutOwnB w (Sp.planShort t l) b v w') (hi : ∀ x ∈ l, Sp.inI x) : OutIntsB w (Sp.planShort t l) b v w' := by
  obtain ⟨A, c, rfl, ho⟩ := h
  refine outIntsB_own (w1 := w) b rfl ho (by have := planShort_len t l; unfold maxLen; omega) (Nat.le_refl _) fun x hx => ?_
  unfold Sp.planShort at hx
  split at hx
  · exact hi x (till_mem x hx)
  · cases hx

set_option maxHeartbeats 1000000 in
set_option maxRecDepth 100000 in
theorem l_PlanShort (v : Value) (t : Sp.Task) (A5 : Option Addr) (n5 c5 : Nat) (p : List Int) (w : World) (h : TaskV w v t) (hI : Ints w A5 n5 p) :
    Calls Try.prog 6 #[v, .slice A5 n5 c5] w (RetK (.bool true) w) := by
  obtain ⟨A, n, c, A', n', c', rfl⟩ := h.form
  have hk0 := (Kept.refl w).alloc (.cells #[.int .i64 t.start, .slice A n c, .slice A' n' c'] 25)
  have hT := h.keep hk0
  have B0 := Blk.new w 25 #[.int .i64 t.start, .slice A n c, .slice A' n' c']
  have hL := hI.keep hk0
  have HPn := Lib.hid hI.len
  have HPi := Lib.hid hI.2.2.1
  obtain ⟨bb, HBb⟩ : ∃ bb, Hid (decide (0 ≤ Sp.planRun t t.start p) = bb) := ⟨_, rfl⟩
  obtain ⟨l, HLst⟩ : ∃ l, Hid (Sp.planShort t p = l) := ⟨_, rfl⟩
  have hll : l.length ≤ 1073741824 := by rw [← HLst.out]; have := planShort_len t p; omega
  by_cases hn5 : 1048576 < n5
  · have hn6 : (1048576 : Int) < (n5 : Int) := by omega
    go_enter Try.func6, Try.ntmps6
    go_wp2_with fail
    go_ret
    exact ⟨rfl, hk0⟩
  have hn6 : ¬ (1048576 : Int) < (n5 : Int) := by omega
  have hpl : p.length ≤ 1048576 := by rw [HPn.out]; omega
  go_enter Try.func6, Try.ntmps6
  go_wp2_with fail
  refine (c_szTask _ t _ _ hT (by omega) (by omega)).mono ?_; rintro e w1 ⟨v, rfl, ⟨r, rfl, hr⟩, hk1⟩
  replace B0 := B0.kept hk1
  replace hT := hT.keep hk1
  replace hL := hL.keep hk1
  replace hk0 := hk0.trans hk1
  clear hk1
  have c0 := B0.cell
  have HR := Lib.hid hr
  clear hr
  by_cases hr : r < 0
  · go_wp2_with fail
    go_ret
    exact ⟨rfl, hk0⟩
  have hm : ∀ m ∈ lens t, m ≤ 1048576 := fun m hm => by
    rcases HR.out with h | h
    · omega
    · have := h.2.2 m hm; omega
  have HM := Lib.hid hm
  have hgl : t.goal.length ≤ 1048576 := hm _ (by simp [lens])
  have hdl : t.deeds.length ≤ 1048576 := hm _ (by simp [lens])
  have HNL := Lib.hid (show ∀ d ∈ t.deeds, d.need.length ≤ 1048576 from fun d hd => hm _ (by simp only [lens, List.mem_cons]; exact .inr (.inr (List.mem_map.2 ⟨d, hd, rfl⟩))))
  clear HR hm
  go_wp2_with fail
  refine (c_toTask _ t _ hT HM.out).mono ?_; rintro e w2 ⟨v, rfl, ⟨g1, g2, rfl, _, _, hN⟩, hk2⟩
  have hN' := hN.here (Nat.le_refl _)
  replace B0 := B0.kept hk2
  replace hT := hT.keep hk2
  replace hL := hL.keep hk2
  replace hk0 := hk0.trans hk2
  clear hk2 hN c0
  have c0 := B0.cell
  go_wp2_with fail
  refine (c_toIntS _ _ c5 _ _ hL (by omega)).mono ?_; rintro e w2' ⟨v, rfl, ⟨g7', rfl, _, hO7⟩, hk2'⟩
  replace B0 := B0.kept hk2'
  replace hT := hT.keep hk2'
  replace hL := hL.keep hk2'
  replace hN' := hN'.keep hk2'
  replace hk0 := hk0.trans hk2'
  clear hk2' c0
  go_wp2_with fail
  refine (c_sPlanShort _ t _ _ _ _ _ hN' hO7.ints).mono ?_; rintro e w3 ⟨v, rfl, hQ, hk3⟩
  obtain ⟨A0, cc0, rfl, hW⟩ := short_out hQ HPi.out
  rw [HBb.out]
  rw [HLst.out] at hW ⊢
  clear hQ hO7
  replace hL := hL.keep hk3
  replace B0 := B0.kept hk3
  replace hT := hT.keep hk3
  replace hk0 := hk0.trans hk3
  clear hk3 hN'
  have c0 := B0.cell
  go_wp2_with fail
  refine (c_toTask _ t _ hT HM.out).mono ?_; rintro e w4 ⟨v, rfl, ⟨g3, g4, rfl, ⟨hg3, hOT⟩, hg4, hN⟩, hk4⟩
  have hk5 := hk4.alloc (.cells #[.int .i64 t.start, .slice (some ⟨g3, 0, none⟩) t.goal.length t.goal.length, .slice (some ⟨g4, 0, none⟩) t.deeds.length t.deeds.length] 30)
  have B1 := Blk.new w4 30 #[.int .i64 t.start, .slice (some ⟨g3, 0, none⟩) t.goal.length t.goal.length, .slice (some ⟨g4, 0, none⟩) t.deeds.length t.deeds.length]
  have hX := (hN.here (Nat.le_refl _)).keep ((Kept.refl w4).alloc (.cells #[.int .i64 t.start, .slice (some ⟨g3, 0, none⟩) t.goal.length t.goal.length, .slice (some ⟨g4, 0, none⟩) t.deeds.length t.deeds.length] 30))
  obtain ⟨hOg, hOd⟩ := hOT.here (Nat.le_refl _)
  have hSg := (hOg.sh hg3 hOg.1).but (But.of_kept (B := w3.heap.size) (C := w4.heap.size) ((Kept.refl w4).alloc (.cells #[.int .i64 t.start, .slice (some ⟨g3, 0, none⟩) t.goal.length t.goal.length, .slice (some ⟨g4, 0, none⟩) t.deeds.length t.deeds.length] 30)))
  have hSd := (hOd.sh (Nat.le_refl _) HNL.out).but (But.of_kept (B := w3.heap.size) (C := w4.heap.size) ((Kept.refl w4).alloc (.cells #[.int .i64 t.start, .slice (some ⟨g3, 0, none⟩) t.goal.length t.goal.length, .slice (some ⟨g4, 0, none⟩) t.deeds.length t.deeds.length] 30)))
  have hs3 := hk0.size
  replace hL := hL.keep hk5
  have hlt3 : w.heap.size < w3.heap.size := B0.lt
  have hs4 := hk4.size
  replace hW := hW.keep hk5
  replace B0 := B0.kept hk5
  replace hT := hT.keep hk5
  replace hk0 := hk0.trans hk5
  clear hk4 hk5 hN c0 hOg hOd hOT
  have c0 := B0.cell
  have c1 := B1.cell
  go_wp2_with fail
  refine (c_toIntS _ _ c5 _ _ hL (by omega)).mono ?_; rintro e wx ⟨v, rfl, ⟨g9, rfl, hg9, hO9⟩, hkx⟩
  have hsx := hkx.size
  simp only [World.size_alloc] at hg9 hsx
  have hlt9 := hO9.1
  replace hW := hW.keep hkx
  replace B0 := B0.kept hkx
  replace B1 := B1.kept hkx
  replace hT := hT.keep hkx
  replace hL := hL.keep hkx
  replace hX := hX.keep hkx
  replace hSg := hSg.but (But.of_kept (B := w3.heap.size) (C := w4.heap.size) hkx)
  replace hSd := hSd.but (But.of_kept (B := w3.heap.size) (C := w4.heap.size) hkx)
  replace hk0 := hk0.trans hkx
  clear hkx c0 c1
  have c0 := B0.cell
  have c1 := B1.cell
  go_wp2_with fail
  refine (c_iPlanShort _ t _ _ _ _ _ hX hO9.ints).mono ?_; rintro e wi ⟨v, rfl, hQ, hk5⟩
  obtain ⟨A1, cc1, rfl, hG⟩ := short_out hQ HPi.out
  rw [HBb.out]
  rw [HLst.out] at hG ⊢
  clear hQ
  replace hL := hL.keep hk5
  replace hO9 := hO9.keep hk5
  replace hW := hW.keep hk5
  replace B0 := B0.kept hk5
  replace B1 := B1.kept hk5
  replace hT := hT.keep hk5
  replace hX := hX.keep hk5
  replace hSg := hSg.but (But.of_kept (B := w3.heap.size) (C := w4.heap.size) hk5)
  replace hSd := hSd.but (But.of_kept (B := w3.heap.size) (C := w4.heap.size) hk5)
  replace hk0 := hk0.trans hk5
  clear c0 c1
  have hs5 := hk5.size
  obtain ⟨C5, HC5⟩ : ∃ C5, Hid (wi.heap.size = C5) := ⟨_, rfl⟩
  rw [HC5.out] at hG hs5
  clear hk5
  go_wp2_with fail
  refine (c_eqIntS _ _ _ _ _ _ _ _ _ hG.1 hW.1 rfl).mono ?_; rintro e w5 ⟨rfl, hk6'⟩
  replace hW := hW.keep hk6'
  replace hG := hG.keep hk6'
  replace B0 := B0.kept hk6'
  replace B1 := B1.kept hk6'
  replace hT := hT.keep hk6'
  replace hX := hX.keep hk6'
  replace hSg := hSg.but (But.of_kept (B := w3.heap.size) (C := w4.heap.size) hk6')
  replace hSd := hSd.but (But.of_kept (B := w3.heap.size) (C := w4.heap.size) hk6')
  replace hL := hL.keep hk6'
  replace hO9 := hO9.keep hk6'
  replace hk0 := hk0.trans hk6'
  clear hk6' HC5
  have c0 := B0.cell
  have c1 := B1.cell
  go_wp2_with fail
  have HS : Hid (∀ w', Kept w5 w' → (w'.cell? ⟨w.heap.size, 0, none⟩ = some (.int .i64 t.start) ∧ w'.cell? ⟨w.heap.size, 1, none⟩ = some (.slice A n c) ∧ w'.cell? ⟨w.heap.size, 2, none⟩ = some (.slice A' n' c') ∧
      w'.cell? ⟨w4.heap.size, 0, none⟩ = some (.int .i64 t.start) ∧ w'.cell? ⟨w4.heap.size, 1, none⟩ = some (.slice (some ⟨g3, 0, none⟩) t.goal.length t.goal.length) ∧
      w'.cell? ⟨w4.heap.size, 2, none⟩ = some (.slice (some ⟨g4, 0, none⟩) t.deeds.length t.deeds.length) ∧ Kept w5 w')) :=
    fun w' hk => ⟨(B0.kept hk).cell 0, (B0.kept hk).cell 1, (B0.kept hk).cell 2, (B1.kept hk).cell 0, (B1.kept hk).cell 1, (B1.kept hk).cell 2, hk⟩
  clear c0 c1
  go_region_held3 (fun w' => w'.cell? ⟨w.heap.size, 0, none⟩ = some (.int .i64 t.start) ∧ w'.cell? ⟨w.heap.size, 1, none⟩ = some (.slice A n c) ∧ w'.cell? ⟨w.heap.size, 2, none⟩ = some (.slice A' n' c') ∧
      w'.cell? ⟨w4.heap.size, 0, none⟩ = some (.int .i64 t.start) ∧ w'.cell? ⟨w4.heap.size, 1, none⟩ = some (.slice (some ⟨g3, 0, none⟩) t.goal.length t.goal.length) ∧
      w'.cell? ⟨w4.heap.size, 2, none⟩ = some (.slice (some ⟨g4, 0, none⟩) t.deeds.length t.deeds.length) ∧ Kept w5 w')
    (first | exact HS.out _ (Kept.refl _) | exact HS.out _ (Kept.refl _).drew | exact HS.out _ (Kept.trans (by assumption) hk6) | exact HS.out _ (Kept.trans (by assumption) hk7))
    (first | (go_at_call 11; go_split_ands; refine (c_toTask _ t _ (hT.keep (by assumption)) HM.out).mono ?_; rintro e w6 ⟨v, rfl, ⟨g5, g6, rfl, _, _, hN6⟩, hk6⟩) | (go_at_call 14; go_split_ands; refine (c_eqTask _ _ t t _ (hX.keep (by assumption)) (hN6.here (Nat.le_refl _)) rfl).mono ?_; rintro e w7 ⟨rfl, hk7⟩))
  all_goals
    go_split_ands
    have hk8 : Kept w5 w7 := by assumption
    have B2 := B0.kept hk8
    have B3 := B1.kept hk8
    have hT2 := hT.keep hk8
    have hW2 := hW.keep hk8
    have hG2 := hG.keep hk8
    have hSg2 := hSg.but (But.of_kept (B := w3.heap.size) (C := w4.heap.size) hk8)
    have hSd2 := hSd.but (But.of_kept (B := w3.heap.size) (C := w4.heap.size) hk8)
    have hL2 := hL.keep hk8
    have hO2 := hO9.keep hk8
    have hk9 := hk0.trans hk8
    clear hk8
    go_wp2_with fail
    refine (c_toIntS _ _ c5 _ _ hL2 (by omega)).mono ?_; rintro e w8 ⟨v, rfl, ⟨ga, rfl, _, hOa⟩, hk8⟩
    go_wp2_with fail
    refine (c_eqIntS _ _ _ _ _ _ _ _ _ (hO2.keep hk8).ints hOa.ints rfl).mono ?_; rintro e w8' ⟨rfl, hk8'⟩
    have hk88 := hk8.trans hk8'
    clear hk8 hk8' hOa
    replace B2 := B2.kept hk88
    replace B3 := B3.kept hk88
    replace hW2 := hW2.keep hk88
    replace hG2 := hG2.keep hk88
    replace hO2 := hO2.keep hk88
    replace hSg2 := hSg2.but (But.of_kept (B := w3.heap.size) (C := w4.heap.size) hk88)
    replace hSd2 := hSd2.but (But.of_kept (B := w3.heap.size) (C := w4.heap.size) hk88)
    replace hk9 := hk9.trans hk88
    clear hk88
    have c0 := B2.cell
    have c1 := B3.cell
    go_wp2_with fail
    refine (c_markTask w3.heap.size w4.heap.size _ _ _ _ _ _ _ _ _ hSg2 hSd2 (by omega) (by omega) (by omega) (by omega)).mono ?_; rintro e w9 ⟨k4, rfl, hk41, _, hb9⟩
    replace hk9 := hb9.kept hk9 hs3
    replace B2 := hb9.blk B2 (.inl hlt3)
    replace hW2 := hW2.but hb9 (.inl (Nat.le_refl _))
    replace hG2 := hG2.but hb9 (.inr (by omega))
    replace hO2 := hb9.own hO2 (.inr (by omega))
    clear c0 c1 B3 hSg2 hSd2 hb9
    go_wp2_with fail
    have hS2 := hO2.sh (B := g9) (C := g9 + 1) (Nat.le_refl _) (Nat.lt_succ_self _)
    refine (c_markIntS g9 (g9 + 1) _ _ _ _ _ hS2 (by omega) (by omega) (by omega)).mono ?_; rintro e w9' ⟨rfl, hb9, _⟩
    replace hk9 := hb9.kept hk9 (by omega)
    replace B2 := hb9.blk B2 (.inl (by omega))
    replace hW2 := hW2.but hb9 (.inl (by omega))
    replace hG2 := hG2.but hb9 (.inr (by omega))
    clear hS2 hO2 hb9
    go_wp2_with fail
    refine (c_eqIntS _ _ _ _ _ _ _ _ _ hG2.1 hW2.1 rfl).mono ?_; rintro e wa ⟨rfl, hka⟩
    replace hW2 := hW2.keep hka
    replace hG2 := hG2.keep hka
    replace B2 := B2.kept hka
    replace hk9 := hk9.trans hka
    clear hka
    go_wp2_with fail
    refine (c_markIntS wx.heap.size C5 _ _ _ _ _ hG2.sh (by omega) (by omega) (by omega)).mono ?_; rintro e wb ⟨rfl, hbb, hMk⟩
    replace hk9 := hbb.kept hk9 (by omega)
    replace hW2 := hW2.but hbb (.inl (by omega))
    replace B2 := hbb.blk B2 (.inl (by omega))
    clear hbb
    have c0 := B2.cell
    go_wp2_with (first | (go_at_call 17; refine (c_heldIntS _ _ _ _ _ hMk (by omega) (by omega) (by omega)).mono ?_; rintro e w' ⟨rfl, rfl⟩))
    refine (c_toTask _ t _ (h.keep hk9) HM.out).mono ?_; rintro e wc ⟨v, rfl, ⟨g7, g8, rfl, _, _, hN7⟩, hkc⟩
    have hN8 := hN7.here (Nat.le_refl _)
    replace hW2 := hW2.keep hkc
    replace hMk := hMk.keep hkc
    replace hk9 := hk9.trans hkc
    clear hkc c0 hN7 B2
    go_wp2_with fail
    refine (c_toIntS _ _ c5 _ _ (hI.keep hk9) (by omega)).mono ?_; rintro e wc' ⟨v, rfl, ⟨gb, rfl, _, hOb⟩, hkc'⟩
    replace hN8 := hN8.keep hkc'
    replace hW2 := hW2.keep hkc'
    replace hMk := hMk.keep hkc'
    replace hk9 := hk9.trans hkc'
    clear hkc'
    go_wp2_with fail
    refine (c_iPlanShort _ t _ _ _ _ _ hN8 hOb.ints).mono ?_; rintro e wd ⟨v, rfl, hQ, hkd⟩
    obtain ⟨A2, cc2, rfl, hG3⟩ := short_out hQ HPi.out
    rw [HBb.out]
    rw [HLst.out] at hG3 ⊢
    clear hQ hOb
    replace hW2 := hW2.keep hkd
    replace hMk := hMk.keep hkd
    replace hk9 := hk9.trans hkd
    clear hkd hN8
    go_wp2_with fail
    refine (c_eqIntS _ _ _ _ _ _ _ _ _ hG3.1 hW2.1 rfl).mono ?_; rintro e we ⟨rfl, hke⟩
    replace hMk := hMk.keep hke
    replace hk9 := hk9.trans hke
    go_wp2_with (first | (go_at_call 17; refine (c_heldIntS _ _ _ _ _ hMk (by omega) (by omega) (by omega)).mono ?_; rintro e w' ⟨rfl, rfl⟩))
    go_ret
    exact ⟨rfl, hk9⟩

end Go.Proofs.Ytphdojebdclonaa
