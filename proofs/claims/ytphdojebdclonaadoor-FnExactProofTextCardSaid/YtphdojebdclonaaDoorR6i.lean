/- Walks: the program's SumOk. No condition. -/
import Derived.Test.YtphdojebdclonaaDoorR7
import Derived.Deep.RegionHeld3
namespace Go.Proofs.YtphdojebdclonaaDoor
set_option linter.unusedSimpArgs false
set_option linter.unusedVariables false
open Go.RowKit

set_option maxHeartbeats 1000000 in
theorem c_iSumOk (v : Value) (t : Sp.Task) (f : Int) (w : World) (h : TaskV w v t) : Calls Tryd.prog 138 #[v, .int .i64 f] w (RetK (.bool (Sp.sumOk t f)) w) := by
  obtain ⟨A, n, c, A', n', c', rfl⟩ := h.form
  have hk0 := (Kept.refl w).alloc (.cells #[.int .i64 t.start, .slice A n c, .slice A' n' c'] 26)
  have B0 := Blk.new w 26 #[.int .i64 t.start, .slice A n c, .slice A' n' c']
  have hn := h.deeds.le
  have HL := Lib.hid h.deeds.len
  cases hsf : Sp.stOk f
  · have HE : Hid (Sp.sumOk t f = false) := by show _ = _; unfold Sp.sumOk; rw [hsf]; simp
    go_enter Tryd.func138, Tryd.ntmps138
    go_wp2_with (first | (go_at_call 77; refine (c_stateOk _ _).mono ?_; rintro e w' ⟨rfl, rfl⟩))
    go_ret
    exact ⟨ret_bool HE.out.symm, hk0⟩
  have HF := Lib.hid hsf
  obtain ⟨hf0, hf1⟩ := st_bd hsf
  go_enter Tryd.func138, Tryd.ntmps138
  go_wp2_with (first | (go_at_call 77; refine (c_stateOk _ _).mono ?_; rintro e w' ⟨rfl, rfl⟩))
  refine (c_iOnlyTurns _ t _ h.box).mono ?_; rintro e w2 ⟨rfl, hk2⟩
  replace hk0 := hk0.trans hk2
  replace B0 := B0.kept hk2
  have c0 := B0.cell
  clear hsf
  cases hto : Sp.onlyTurns t
  · have HE : Hid (Sp.sumOk t f = false) := by show _ = _; unfold Sp.sumOk; rw [hto]; simp
    clear hto
    go_wp2_with fail
    go_ret
    exact ⟨ret_bool HE.out.symm, hk0⟩
  have HT := Lib.hid hto
  have HK := Lib.hid (onlyTurns_taskOk hto)
  clear hto
  go_wp2_with fail
  clear hk2 c0
  go_loopw [21] (fun i wr => ∃ k : Nat, k ≤ n' ∧ i = .int .i64 k ∧ Kept w wr ∧ Blk wr w.heap.size 26 #[.int .i64 t.start, .slice A n c, .slice A' n' c'] ∧ Hid ((t.deeds.take k).all (Sp.evenFlip f.toNat) = true)) (fun i _ => n' - (intOf i).toNat)
  case atStart => exact ⟨0, Nat.zero_le _, rfl, hk0, B0, rfl⟩
  case round =>
    obtain ⟨k, hk, rfl, hkp, hB, HA⟩ := hrel
    by_cases hlt : k < n'
    · have hkl : k < t.deeds.length := by rw [HL.out]; exact hlt
      obtain ⟨b, off, rfl, hb, hc⟩ := (h.keep hkp).deeds.at hlt
      have HY := Lib.hid (all_take_succ t.deeds (Sp.evenFlip f.toNat) k hkl)
      have HN := Lib.hid (@sumOk_no1 t f k hkl)
      have hdo := Sp.taskOk_deed HK.out hkl
      generalize t.deeds.getD k default = d at *
      obtain ⟨A2, n2, c2, q0, hI, hc1, hc2, hc3, _⟩ := hc
      have hkb := (Kept.refl wr).alloc (.cells #[.slice A2 n2 c2, .int .i64 d.on, .int .i64 d.off, .int .i64 d.flip] 72)
      obtain ⟨hl0, hl1⟩ := deedOk_flip hdo
      have ha1 : d.flip.toNat &&& f.toNat ≤ f.toNat := Nat.and_le_right
      have hcl := cnt_le (d.flip.toNat &&& f.toNat)
      have hand := i64_and d.flip f (by omega) (by omega) (by omega) (by omega)
      have hq := flip_b f.toNat d
      clear hdo
      cases hev : Sp.evenFlip f.toNat d
      all_goals
        rw [hev] at hq
        have HV := Lib.hid hev
        clear hev
        simp only [Bool.not_true, Bool.not_false] at hq
        go_wp2_with (first | (go_at_call 112; refine (c_countBits _ _ (by omega) (by omega)).mono ?_; rintro e w' ⟨rfl, rfl⟩))
      · go_ret
        exact ⟨ret_bool (HN.out HV.out).symm, hkp.trans hkb⟩
      · exact ⟨⟨k + 1, by omega, by go_num, hkp.trans hkb, hB.kept hkb, by show _ = true; rw [HY.out, HA.out, HV.out]; rfl⟩, by simp [intOf]; omega⟩
    · have HALL : Hid (t.deeds.all (Sp.evenFlip f.toNat) = true) := by have := HA.out; rwa [Sp.take_all _ k (by rw [HL.out]; omega)] at this
      have hgo := Sp.taskOk_goal HK.out
      obtain ⟨hs0, hs1⟩ := Sp.taskOk_start HK.out
      have HC := Lib.hid (truth_codeTruth hgo)
      clear hgo HA
      have c0 := hB.cell
      have ha2 : t.start.toNat &&& f.toNat ≤ f.toNat := Nat.and_le_right
      have hcl2 := cnt_le (t.start.toNat &&& f.toNat)
      have hand := i64_and t.start f (by omega) (by omega) (by omega) (by omega)
      go_wp2_with (first | (go_at_call 112; refine (c_countBits _ _ (by omega) (by omega)).mono ?_; rintro e w' ⟨rfl, rfl⟩))
      refine (c_iCodeTruth _ _ _ _ _ (h.keep hkp).goal).mono ?_; rintro e w3 ⟨rfl, hk3⟩
      rw [HC.out]
      replace hkp := hkp.trans hk3
      clear hk3 c0 hand
      have htb := truth_bd t.goal
      go_wp2_with fail
      go_loop [42] (fun i => ∃ k : Nat, k ≤ 32 ∧ i = .int .i64 k ∧ Hid (Sp.upTo k (Sp.apart t f.toNat) = true)) (fun i => 32 - (intOf i).toNat)
      case atStart => exact ⟨0, by omega, rfl, rfl⟩
      case round =>
        obtain ⟨j, hj, rfl, HU⟩ := hrel
        by_cases hlt2 : j < 32
        · have HY := Lib.hid (upTo_succ j (Sp.apart t f.toNat))
          have HN := Lib.hid (@sumOk_no2 t f j hlt2)
          have ha1 : j &&& f.toNat ≤ f.toNat := Nat.and_le_right
          have hcl := cnt_le (j &&& f.toNat)
          have hand := and_nat_int j f (by omega) (by omega) (by omega)
          have hab := and_bit (Sp.truth t.goal) j (by omega)
          have hb1 := bit_one ((Sp.truth t.goal).testBit j)
          have HBit : Hid ((Sp.truth t.goal).testBit j = Sp.run t.goal j) := by show _ = _; unfold Sp.truth; rw [Sp.testBit_setOf]; simp [hlt2]
          have hq := even_b2 t.start.toNat j f.toNat
          cases hev : (Sp.truth t.goal).testBit j
          · rw [hev] at hb1 hab
            have HV := Lib.hid hev
            clear hev hq
            go_wp2_with fail
            exact ⟨⟨j + 1, by omega, by go_num, by show _ = true; rw [HY.out, HU.out]; unfold Sp.apart; rw [← HBit.out, HV.out]; rfl⟩, by simp [intOf]; omega⟩
          · rw [hev] at hb1 hab
            have HV := Lib.hid hev
            clear hev
            cases hev2 : Sp.even t.start.toNat j f.toNat
            all_goals
              rw [hev2] at hq
              have HV2 := Lib.hid hev2
              clear hev2
              go_wp2_with (first | (go_at_call 112; refine (c_countBits _ _ (by omega) (by omega)).mono ?_; rintro e w' ⟨rfl, rfl⟩))
            · exact ⟨⟨j + 1, by omega, by go_num, by show _ = true; rw [HY.out, HU.out]; unfold Sp.apart; rw [HV2.out]; simp⟩, by simp [intOf]; omega⟩
            · go_ret
              exact ⟨ret_bool (HN.out (by unfold Sp.apart; rw [← HBit.out, HV.out, HV2.out]; rfl)).symm, hkp⟩
        · go_wp2_with fail
          go_ret
          obtain rfl : j = 32 := by omega
          exact ⟨ret_bool (by unfold Sp.sumOk; rw [HF.out, HT.out, HALL.out, HU.out]; rfl), hkp⟩

end Go.Proofs.YtphdojebdclonaaDoor
