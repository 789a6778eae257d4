/- The law FnExactReadTask, walked. No condition. -/
import Derived.Test.YtphdojebdclonaaDoorT26
namespace Go.Proofs.YtphdojebdclonaaDoor
set_option linter.unusedSimpArgs false
set_option linter.unusedVariables false
open Go.RowKit

theorem same_read {s : List UInt8} {t t' : Sp.Task} {b b' : Bool}
    (h : (b = true → Sp.taskOk t = true ∧ Sp.taskText t = s) ∧ (b = false → t = ⟨0, [], []⟩) ∧ ∀ t', Sp.taskOk t' = true → Sp.taskText t' = s → b = true ∧ t = t')
    (h' : (b' = true → Sp.taskOk t' = true ∧ Sp.taskText t' = s) ∧ (b' = false → t' = ⟨0, [], []⟩) ∧ ∀ t'', Sp.taskOk t'' = true → Sp.taskText t'' = s → b' = true ∧ t' = t'') : t' = t ∧ b' = b := by
  cases b
  · cases b'
    · exact ⟨(h'.2.1 rfl).trans (h.2.1 rfl).symm, rfl⟩
    · obtain ⟨h1, h2⟩ := h'.1 rfl
      have := (h.2.2 t' h1 h2).1
      cases this
  · obtain ⟨h1, h2⟩ := h.1 rfl
    obtain ⟨h3, h4⟩ := h'.2.2 t h1 h2
    exact ⟨h4, h3⟩

set_option maxHeartbeats 4000000 in
set_option maxRecDepth 100000 in
theorem l_ReadTaskX (s0 : ByteArray) (w : World) (_h : s0.size ≤ maxLen) (hm : ∃ m, w.cell? ⟨1, 0, none⟩ = some (.int .i64 m)) :
    Calls Tryd.prog 7 #[.string s0] w (RetK (.bool true) w) := by
  obtain ⟨s, rfl⟩ : ∃ s : List UInt8, s0 = ⟨s.toArray⟩ := ⟨s0.data.toList, by simp⟩
  obtain ⟨m, hm0⟩ := hm
  by_cases hbig : (1048576 : Int) < (s.length : Int)
  · go_enter Tryd.func7, Tryd.ntmps7
    go_wp2_with fail
    go_ret
    exact ⟨rfl, Kept.refl _⟩
  have hs20 : s.length ≤ 1048576 := by omega
  go_enter Tryd.func7, Tryd.ntmps7
  go_wp2_with fail
  refine (c_sReadTask s _ hs20).mono ?_; rintro e w1 ⟨v, rfl, ⟨t, b, tv, rfl, hTV, HQ1⟩, hk1⟩
  obtain ⟨A1, n1, c1, A2, n2, c2, rfl⟩ := hTV.form
  have hkA := hk1.alloc (.cells #[.int .i64 t.start, .slice A1 n1 c1, .slice A2 n2 c2] 26)
  have B1 := Blk.new w1 26 #[.int .i64 t.start, .slice A1 n1 c1, .slice A2 n2 c2]
  have hTA := hTV.keep ((Kept.refl w1).alloc (.cells #[.int .i64 t.start, .slice A1 n1 c1, .slice A2 n2 c2] 26))
  have hmA := hkA.at_ hm0
  obtain ⟨D1, HD1⟩ : ∃ x, Hid (w1.heap.size = x) := ⟨_, rfl⟩
  obtain ⟨wA, HWA⟩ : ∃ x, Hid (w1.alloc (.cells #[.int .i64 t.start, .slice A1 n1 c1, .slice A2 n2 c2] 26) = x) := ⟨_, rfl⟩
  rw [HWA.out] at hkA B1 hTA hmA
  rw [HD1.out] at B1
  clear hk1 hTV
  go_upto_region 4 with fail
  rw [HWA.out, HD1.out]
  clear HWA
  go_wp2_with fail
  refine (c_iReadTask s m _ hs20 hmA).mono ?_; rintro e w2 ⟨v, rfl, ⟨t', b', tv', rfl, hTV2, hMT, HQ2⟩, hk2⟩
  obtain ⟨rfl, rfl⟩ := same_read ⟨HQ1.out.1, fun h => (HQ1.out.2.1 h).1, HQ1.out.2.2⟩ ⟨HQ2.out.1, fun h => (HQ2.out.2.1 h).1, HQ2.out.2.2⟩
  obtain ⟨x, AG, nG, cG, gG, A, n, c, g, gs, ms, rfl, hnG, hn8, hGA, hGX, hGl, hSh, hA, hOD, hap, hap2, hms⟩ := hMT
  have hkA2 := (Kept.refl wA).trans hk2
  have hkB := hk2.alloc (.cells #[.int .i64 x, .slice AG nG cG, .slice A n c] 26)
  have hk2B := (Kept.refl w2).alloc (.cells #[.int .i64 x, .slice AG nG cG, .slice A n c] 26)
  have B2 := Blk.new w2 26 #[.int .i64 x, .slice AG nG cG, .slice A n c]
  have hTB := hTV2.keep hk2B
  have hlt1 := B1.lt
  obtain ⟨D2, HD2⟩ : ∃ x, Hid (w2.heap.size = x) := ⟨_, rfl⟩
  obtain ⟨wB, HWB⟩ : ∃ y, Hid (w2.alloc (.cells #[.int .i64 x, .slice AG nG cG, .slice A n c] 26) = y) := ⟨_, rfl⟩
  rw [HWB.out] at hkB hk2B B2 hTB
  rw [HD2.out] at B2
  have HP := Lib.hid (And.intro hSh (And.intro hA (And.intro hOD (And.intro hap (And.intro hap2 hms)))))
  have hC : w2.heap.size = D2 := HD2.out
  have HC := Lib.hid hC
  clear hkA2 hTV2 hk2 hSh hA hOD hap hap2 hms hC
  go_upto_region 5 with fail
  rw [HWB.out, HD2.out]
  clear HWB
  have B1B := B1.kept hkB
  have d0 := B1B.cell 0
  have d1 := B1B.cell 1
  have d2 := B1B.cell 2
  have e0 := B2.cell 0
  have e1 := B2.cell 1
  have e2 := B2.cell 2
  go_wp2_with fail
  refine (c_eqTask _ _ _ _ _ hTB (hTA.keep hkB) rfl).mono ?_; rintro e w3 ⟨rfl, hk3⟩
  have hkB3 := hkB.trans hk3
  have B23 := B2.kept hk3
  have hk23 := hk2B.trans hk3
  clear d0 d1 d2 e0 e1 e2 B1B
  have e0 := B23.cell 0
  have e1 := B23.cell 1
  have e2 := B23.cell 2
  have hbne : (b' != b') = false := by simp
  have hSh3 := HP.out.1.but (But.of_kept (B := gG) (C := gG + 1) hk23)
  have HOD3 : Hid (0 < n → OD wA.heap.size D2 w3 g n gs ms) := fun h => by rw [← HC.out]; exact (HP.out.2.2.1 h).but (But.of_kept (B := wA.heap.size) (C := w2.heap.size) hk23)
  have hGl2 : gG < D2 := by rw [← HC.out]; exact hGl
  have hGl3 : gG < w3.heap.size := Nat.lt_of_lt_of_le hGl hk23.size
  go_wp2_with fail
  refine (c_markTaskX wA.heap.size D2 gG nG cG g n c AG A gs ms x 1 _ hSh3 hGA hGX hGl2 hGl3 HP.out.2.1 HOD3.out HP.out.2.2.2.1 HP.out.2.2.2.2.1 hnG hn8 (by omega) (by omega)).mono ?_; rintro e w4 ⟨rfl, hb4, hM4, hD4⟩
  have hbd := mkAt_bd ms (1 + (nG : Int)) n HP.out.2.2.2.2.2 n (Nat.le_refl _)
  obtain ⟨K, HK⟩ : ∃ K, Hid (mkAt ms (1 + (nG : Int)) n = K) := ⟨_, rfl⟩
  rw [HK.out] at hbd
  rw [HK.out]
  have hkA4 : Kept wA w4 := hb4.kept hkB3 (Nat.le_refl _)
  have B24 := hb4.blk B23 (.inr (Nat.le_refl _))
  clear e0 e1 e2 hb4 hSh3 hk3
  have e0 := B24.cell 0
  have e1 := B24.cell 1
  have e2 := B24.cell 2
  have HM4 := Lib.hid hM4
  have HDD4 := Lib.hid hD4
  clear hM4 hD4
  go_wp2_with fail
  refine (c_heldTaskX nG cG g n c AG A gs ms x 1 _ HM4.out HDD4.out HP.out.2.2.2.2.2 HP.out.2.1 hnG hn8 (by omega) (by omega)).mono ?_; rintro e w5 ⟨rfl, hk5⟩
  rw [HK.out]
  have hkA5 := hkA4.trans hk5
  have B25 := B24.kept hk5
  have hKp : ¬ K < 0 := by omega
  have hKne : (K != K) = false := by simp
  have hm5 := hkA5.at_ hmA
  clear e0 e1 e2
  go_wp2_with fail
  refine (c_iReadTask s m _ hs20 hm5).mono ?_; rintro e w6 ⟨v, rfl, ⟨t3, b3, tv3, rfl, hTV3, _, HQ3⟩, hk6⟩
  obtain ⟨rfl, rfl⟩ := same_read ⟨HQ1.out.1, fun h => (HQ1.out.2.1 h).1, HQ1.out.2.2⟩ ⟨HQ3.out.1, fun h => (HQ3.out.2.1 h).1, HQ3.out.2.2⟩
  obtain ⟨A5, n5, c5, A6, n6, c6, rfl⟩ := hTV3.form
  have hkA6 := hkA5.trans hk6
  have hk46 := hk5.trans hk6
  have B26 := B25.kept hk6
  have hkN := (Kept.refl w6).alloc (.cells #[.int .i64 t3.start, .slice A5 n5 c5, .slice A6 n6 c6] 26)
  have B3 := Blk.new w6 26 #[.int .i64 t3.start, .slice A5 n5 c5, .slice A6 n6 c6]
  have hT3 := hTV3.keep hkN
  obtain ⟨D3, HD3⟩ : ∃ x, Hid (w6.heap.size = x) := ⟨_, rfl⟩
  obtain ⟨wN, HWN⟩ : ∃ y, Hid (w6.alloc (.cells #[.int .i64 t3.start, .slice A5 n5 c5, .slice A6 n6 c6] 26) = y) := ⟨_, rfl⟩
  rw [HWN.out] at hkN B3 hT3
  rw [HD3.out] at B3
  have hkAN := hkA6.trans hkN
  have hk4N := hk46.trans hkN
  have B2N := B26.kept hkN
  have B1N := B1.kept hkAN
  have hTAN := hTA.keep hkAN
  clear hkA6 hk46 B26 hkN hTV3 hk6 hk5 B25 hm5
  go_upto_region 16 with fail
  rw [HWN.out, HD3.out]
  clear HWN
  have d0 := B1N.cell 0
  have d1 := B1N.cell 1
  have d2 := B1N.cell 2
  have e0 := B3.cell 0
  have e1 := B3.cell 1
  have e2 := B3.cell 2
  have hbne3 : (b3 != b3) = false := by simp
  go_wp2_with fail
  refine (c_eqTask _ _ _ _ _ hT3 hTAN rfl).mono ?_; rintro e w7 ⟨rfl, hk7⟩
  have hk47 := hk4N.trans hk7
  have B27 := B2N.kept hk7
  have hkA7 := hkAN.trans hk7
  clear d0 d1 d2 e0 e1 e2
  have e0 := B27.cell 0
  have e1 := B27.cell 1
  have e2 := B27.cell 2
  have hM7 := HM4.out.keep hk47
  have HD7 := Lib.hid (HDD4.out.kept hk47)
  go_wp2_with fail
  refine (c_heldTaskX nG cG g n c AG A gs ms x 1 _ hM7 HD7.out HP.out.2.2.2.2.2 HP.out.2.1 hnG hn8 (by omega) (by omega)).mono ?_; rintro e w8 ⟨rfl, hk8⟩
  rw [HK.out]
  go_wp2_with fail
  go_ret
  exact ⟨rfl, (hkA.trans hkA7).trans hk8⟩

end Go.Proofs.YtphdojebdclonaaDoor
