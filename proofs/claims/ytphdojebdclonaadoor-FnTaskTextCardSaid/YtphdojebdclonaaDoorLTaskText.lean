/- The law FnTaskText, walked. No condition. -/
import Derived.Test.YtphdojebdclonaaDoorT27
import Derived.Test.YtphdojebdclonaaDoorD11
namespace Go.Proofs.YtphdojebdclonaaDoor
set_option linter.unusedSimpArgs false
set_option linter.unusedVariables false
open Go.RowKit

set_option maxHeartbeats 4000000 in
set_option maxRecDepth 100000 in
theorem l_TaskTextFn (A : Option Addr) (n c : Nat) (w : World) (h : BytesV w A n ∧ n ≤ c ∧ c ≤ maxLen) (hm : ∃ m, w.cell? ⟨1, 0, none⟩ = some (.int .i64 m)) :
    Calls Tryd.prog 6 #[.slice A n c] w (RetK (.bool true) w) := by
  obtain ⟨m, hm0⟩ := hm
  by_cases hbig : (1048576 : Int) < (n : Int)
  · go_enter Tryd.func6, Tryd.ntmps6
    go_wp2_with fail
    go_ret
    exact ⟨rfl, Kept.refl _⟩
  go_enter Tryd.func6, Tryd.ntmps6
  go_wp2_with fail
  refine (c_drawTaskText A n c _ h).mono ?_; rintro e w1 ⟨v, rfl, ⟨t, hTV⟩, hk1⟩
  obtain ⟨A1, n1, c1, A2, n2, c2, rfl⟩ := hTV.form
  have hkA := hk1.alloc (.cells #[.int .i64 t.start, .slice A1 n1 c1, .slice A2 n2 c2] 26)
  have B1 := Blk.new w1 26 #[.int .i64 t.start, .slice A1 n1 c1, .slice A2 n2 c2]
  have hTA := hTV.keep ((Kept.refl w1).alloc (.cells #[.int .i64 t.start, .slice A1 n1 c1, .slice A2 n2 c2] 26))
  obtain ⟨D1, HD1⟩ : ∃ x, Hid (w1.heap.size = x) := ⟨_, rfl⟩
  obtain ⟨wA, HWA⟩ : ∃ x, Hid (w1.alloc (.cells #[.int .i64 t.start, .slice A1 n1 c1, .slice A2 n2 c2] 26) = x) := ⟨_, rfl⟩
  rw [HWA.out] at hkA B1 hTA
  rw [HD1.out] at B1
  clear hk1 hTV
  go_upto_region 4 with fail
  rw [HWA.out, HD1.out]
  clear HWA
  have d0 := B1.cell 0
  have d1 := B1.cell 1
  have d2 := B1.cell 2
  go_wp2_with fail
  refine (c_iTaskText _ t _ hTA).mono ?_; rintro e w2 ⟨rfl, hk2⟩
  obtain ⟨u, HU⟩ : ∃ u, Hid (Sp.taskText t = u) := ⟨_, rfl⟩
  rw [HU.out]
  have hul : u.length ≤ 2000 := by rw [← HU.out]; exact taskText_len t
  have B2 := B1.kept hk2
  have hT2 := hTA.keep hk2
  have hkB := hkA.trans hk2
  clear d0 d1 d2 B1 hTA hkA hk2
  have d0 := B2.cell 0
  have d1 := B2.cell 1
  have d2 := B2.cell 2
  go_wp2_with fail
  refine (c_sTaskText _ t _ hT2).mono ?_; rintro e w3 ⟨rfl, hk3⟩
  rw [HU.out]
  have B3 := B2.kept hk3
  have hT3 := hT2.keep hk3
  have hkC := hkB.trans hk3
  clear d0 d1 d2 B2 hT2 hkB hk3
  have d0 := B3.cell 0
  have d1 := B3.cell 1
  have d2 := B3.cell 2
  have huu : (u != u) = false := by simp
  by_cases hu : u = []
  · have hok : Sp.taskOk t = false := by
      cases h : Sp.taskOk t
      · rfl
      · exact absurd (HU.out.trans hu) (taskText_ne h)
    have heq0 : (u == []) = true := beq_iff_eq.2 hu
    have hem : u.isEmpty = true := by rw [hu]; rfl
    have HOK := Lib.hid hok
    clear hu hok
    go_wp2_with fail
    refine (c_iTaskValid _ t _ hT3).mono ?_; rintro e w4 ⟨rfl, hk4⟩
    rw [HOK.out]
    go_wp2_with fail
    refine (c_alive _).mono ?_; rintro e w5 ⟨rfl, hk5⟩
    go_wp2_with fail
    go_ret
    exact ⟨rfl, (hkC.trans hk4).trans hk5⟩
  · have hok : Sp.taskOk t = true := by
      cases h : Sp.taskOk t
      · exact absurd (HU.out.symm.trans (taskText_no h)) hu
      · rfl
    have heq0 : (u == []) = false := beq_eq_false_iff_ne.2 hu
    have hem : u.isEmpty = false := by
      cases u with
      | nil => exact absurd rfl hu
      | cons a b => rfl
    have hm3 := hkC.at_ hm0
    have HOK := Lib.hid hok
    clear hu hok
    go_wp2_with fail
    refine (c_iReadTask u m _ (by omega) hm3).mono ?_; rintro e w4 ⟨v, rfl, ⟨t', b', tv, rfl, hTV4, _, HQ⟩, hk4⟩
    obtain ⟨rfl, rfl⟩ := HQ.out.2.2 t HOK.out HU.out
    obtain ⟨A5, n5, c5, A6, n6, c6, rfl⟩ := hTV4.form
    have hkN := (Kept.refl w4).alloc (.cells #[.int .i64 t'.start, .slice A5 n5 c5, .slice A6 n6 c6] 26)
    have B5 := Blk.new w4 26 #[.int .i64 t'.start, .slice A5 n5 c5, .slice A6 n6 c6]
    have hT5 := hTV4.keep hkN
    obtain ⟨D2, HD2⟩ : ∃ x, Hid (w4.heap.size = x) := ⟨_, rfl⟩
    obtain ⟨wN, HWN⟩ : ∃ x, Hid (w4.alloc (.cells #[.int .i64 t'.start, .slice A5 n5 c5, .slice A6 n6 c6] 26) = x) := ⟨_, rfl⟩
    rw [HWN.out] at hkN B5 hT5
    rw [HD2.out] at B5
    have hk4N := hk4.trans hkN
    have B3N := B3.kept hk4N
    have hT3N := hT3.keep hk4N
    have hkE := hkC.trans hk4N
    clear d0 d1 d2 B3 hT3 hk4 hTV4 hkN
    go_upto_region 10 with fail
    rw [HWN.out, HD2.out]
    clear HWN
    have d0 := B3N.cell 0
    have d1 := B3N.cell 1
    have d2 := B3N.cell 2
    have e0 := B5.cell 0
    have e1 := B5.cell 1
    have e2 := B5.cell 2
    go_wp2_with fail
    refine (c_sameTask _ _ t' _ hT5 hT3N).mono ?_; rintro e w6 ⟨rfl, hk6⟩
    go_wp2_with fail
    go_ret
    exact ⟨rfl, hkE.trans hk6⟩

end Go.Proofs.YtphdojebdclonaaDoor
