/- The law FnReadTask, walked. No condition. -/
import Derived.Test.YtphdojebdclonaaDoorD20
import Derived.Test.YtphdojebdclonaaDoorLExactReadTask
namespace Go.Proofs.YtphdojebdclonaaDoor
set_option linter.unusedSimpArgs false
set_option linter.unusedVariables false
open Go.RowKit

set_option maxHeartbeats 4000000 in
set_option maxRecDepth 100000 in
theorem l_ReadTaskFn (A : Option Addr) (n c : Nat) (w : World) (h : BytesV w A n ∧ n ≤ c ∧ c ≤ maxLen) (hm : ∃ m, w.cell? ⟨1, 0, none⟩ = some (.int .i64 m)) :
    Calls Tryd.prog 8 #[.slice A n c] w (RetK (.bool true) w) := by
  obtain ⟨m, hm0⟩ := hm
  by_cases hbig : (1048576 : Int) < (n : Int)
  · go_enter Tryd.func8, Tryd.ntmps8
    go_wp2_with fail
    go_ret
    exact ⟨rfl, Kept.refl _⟩
  go_enter Tryd.func8, Tryd.ntmps8
  go_wp2_with fail
  refine (c_drawReadTask A n c _ h).mono ?_; rintro e w1 ⟨v, rfl, ⟨s, rfl, hsl⟩, hk1⟩
  have hm1 := hk1.at_ hm0
  go_wp2_with fail
  refine (c_iReadTask s m _ (by omega) hm1).mono ?_; rintro e w2 ⟨v, rfl, ⟨t, b, tv, rfl, hTV, _, HQ1⟩, hk2⟩
  obtain ⟨A1, n1, c1, A2, n2, c2, rfl⟩ := hTV.form
  have hkX := (Kept.refl w2).alloc (.cells #[.int .i64 t.start, .slice A1 n1 c1, .slice A2 n2 c2] 26)
  have B1 := Blk.new w2 26 #[.int .i64 t.start, .slice A1 n1 c1, .slice A2 n2 c2]
  have hTA := hTV.keep hkX
  have hkA := (hk1.trans hk2).trans hkX
  obtain ⟨D1, HD1⟩ : ∃ x, Hid (w2.heap.size = x) := ⟨_, rfl⟩
  obtain ⟨wA, HWA⟩ : ∃ x, Hid (w2.alloc (.cells #[.int .i64 t.start, .slice A1 n1 c1, .slice A2 n2 c2] 26) = x) := ⟨_, rfl⟩
  rw [HWA.out] at hkA B1 hTA
  rw [HD1.out] at B1
  clear hk1 hk2 hkX hTV hm1
  go_upto_region 5 with fail
  rw [HWA.out, HD1.out]
  clear HWA
  go_wp2_with fail
  refine (c_sReadTask s _ (by omega)).mono ?_; rintro e w3 ⟨v, rfl, ⟨t', b', tv', rfl, hTV2, HQ2⟩, hk3⟩
  obtain ⟨rfl, rfl⟩ := same_read ⟨HQ1.out.1, fun h => (HQ1.out.2.1 h).1, HQ1.out.2.2⟩ ⟨HQ2.out.1, fun h => (HQ2.out.2.1 h).1, HQ2.out.2.2⟩
  obtain ⟨A3, n3, c3, A4, n4, c4, rfl⟩ := hTV2.form
  have hkY := (Kept.refl w3).alloc (.cells #[.int .i64 t'.start, .slice A3 n3 c3, .slice A4 n4 c4] 26)
  have B2 := Blk.new w3 26 #[.int .i64 t'.start, .slice A3 n3 c3, .slice A4 n4 c4]
  have hTB := hTV2.keep hkY
  have hkAB := hk3.trans hkY
  obtain ⟨D2, HD2⟩ : ∃ x, Hid (w3.heap.size = x) := ⟨_, rfl⟩
  obtain ⟨wB, HWB⟩ : ∃ x, Hid (w3.alloc (.cells #[.int .i64 t'.start, .slice A3 n3 c3, .slice A4 n4 c4] 26) = x) := ⟨_, rfl⟩
  rw [HWB.out] at hkAB B2 hTB
  rw [HD2.out] at B2
  have B1B := B1.kept hkAB
  have hTAB := hTA.keep hkAB
  have hkB := hkA.trans hkAB
  clear hk3 hkY hTV2 B1 hTA hkA
  go_upto_region 6 with fail
  rw [HWB.out, HD2.out]
  clear HWB
  have d0 := B1B.cell 0
  have d1 := B1B.cell 1
  have d2 := B1B.cell 2
  have e0 := B2.cell 0
  have e1 := B2.cell 1
  have e2 := B2.cell 2
  go_wp2_with fail
  refine (c_sameTask _ _ t' _ hTAB hTB).mono ?_; rintro e w4 ⟨rfl, hk4⟩
  have hkC := hkB.trans hk4
  have B1C := B1B.kept hk4
  have hTAC := hTAB.keep hk4
  have hbne : (b' != b') = false := by simp
  clear d0 d1 d2 e0 e1 e2 B1B B2 hTAB hTB hk4
  have d0 := B1C.cell 0
  have d1 := B1C.cell 1
  have d2 := B1C.cell 2
  cases b'
  · obtain ⟨rfl, ez⟩ := HQ1.out.2.1 rfl
    simp only [Value.agg.injEq, List.toArray_eq_iff, Array.mk.injEq, List.cons.injEq, Value.slice.injEq, and_true, true_and] at ez
    obtain ⟨⟨_, hz1, _⟩, _, hz2, _⟩ := ez
    subst hz1 hz2
    go_wp2_with fail
    refine (c_alive _).mono ?_; rintro e w5 ⟨rfl, hk5⟩
    go_wp2_with fail
    go_ret
    exact ⟨rfl, hkC.trans hk5⟩
  · obtain ⟨hok, htx⟩ := HQ1.out.1 rfl
    have HOK := Lib.hid hok
    have HTX := Lib.hid htx
    have hmC := hkC.at_ hm0
    have hadd : (⟨s.toArray⟩ : ByteArray) ++ ⟨#[59]⟩ = ⟨(s ++ [59]).toArray⟩ := str_add1 s 59
    have hl59 : (s ++ [59]).length ≤ 1048576 := by simp; omega
    clear hok htx
    go_wp2_with fail
    refine (c_iReadTask (s ++ [59]) m _ hl59 hmC).mono ?_; rintro e w5 ⟨v, rfl, ⟨t3, b3, tv3, rfl, hTV3, _, HQ3⟩, hk5⟩
    obtain rfl : b3 = false := by
      cases b3
      · rfl
      · obtain ⟨h1, h2⟩ := HQ3.out.1 rfl
        exact absurd h2 (taskText_noEnd h1 s)
    obtain ⟨A5, n5, c5, A6, n6, c6, rfl⟩ := hTV3.form
    have hkZ := hk5.alloc (.cells #[.int .i64 t3.start, .slice A5 n5 c5, .slice A6 n6 c6] 26)
    have B1D := B1C.kept hkZ
    have hTAD := hTAC.keep hkZ
    have hkD := hkC.trans hkZ
    clear d0 d1 d2
    have d0 := B1D.cell 0
    have d1 := B1D.cell 1
    have d2 := B1D.cell 2
    clear hkZ B1C hTAC
    obtain ⟨wD, HWD⟩ : ∃ x, Hid (w5.alloc (.cells #[.int .i64 t3.start, .slice A5 n5 c5, .slice A6 n6 c6] 26) = x) := ⟨_, rfl⟩
    rw [HWD.out] at hkD hTAD d0 d1 d2
    clear B1D
    go_upto_region 11 with fail
    rw [HWD.out]
    go_wp2_with fail
    refine (c_iTaskText _ t' _ hTAD).mono ?_; rintro e w6 ⟨rfl, hk6⟩
    rw [HTX.out]
    have hss : (s == s) = true := by simp
    go_wp2_with fail
    go_ret
    exact ⟨rfl, hkD.trans hk6⟩

end Go.Proofs.YtphdojebdclonaaDoor
