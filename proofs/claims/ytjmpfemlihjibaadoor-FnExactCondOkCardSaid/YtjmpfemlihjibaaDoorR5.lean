/- Walks: OnlyTurns. No condition. -/
import Derived.Test.YtjmpfemlihjibaaDoorR4
namespace Go.Proofs.YtjmpfemlihjibaaDoor
open Go.RowKit

def Sp.turnOk (d : Sp.Deed) : Bool := d.on == 0 && d.off == 0 && Sp.truth d.need == 4294967295
def Sp.onlyTurns (t : Sp.Task) : Bool := Sp.taskOk t && t.deeds.all Sp.turnOk

theorem only_no {t : Sp.Task} {k : Nat} (h : k < t.deeds.length) (hp : Sp.turnOk (t.deeds.getD k default) = false) : Sp.onlyTurns t = false := by
  unfold Sp.onlyTurns
  rw [all_take_no _ _ k h hp, Bool.and_false]

theorem deedOk_need {d : Sp.Deed} (h : Sp.deedOk d = true) : Sp.codeOk d.need = true := by
  unfold Sp.deedOk at h
  simp only [Bool.and_eq_true] at h
  exact h.1.1.1.1.1.1
theorem deedOk_on {d : Sp.Deed} (h : Sp.deedOk d = true) : 0 ≤ d.on ∧ d.on ≤ 31 := by
  unfold Sp.deedOk at h
  simp only [Bool.and_eq_true] at h
  exact st_bd h.1.1.1.1.1.2
theorem deedOk_off {d : Sp.Deed} (h : Sp.deedOk d = true) : 0 ≤ d.off ∧ d.off ≤ 31 := by
  unfold Sp.deedOk at h
  simp only [Bool.and_eq_true] at h
  exact st_bd h.1.1.1.1.2
theorem deedOk_flip {d : Sp.Deed} (h : Sp.deedOk d = true) : 0 ≤ d.flip ∧ d.flip ≤ 31 := by
  unfold Sp.deedOk at h
  simp only [Bool.and_eq_true] at h
  exact st_bd h.1.1.1.2
theorem truth_codeTruth {l : List Int} (h : Sp.codeOk l = true) : Sp.codeTruth l = (Sp.truth l : Nat) := by unfold Sp.codeTruth; rw [if_pos h]
theorem truth_bd (l : List Int) : Sp.truth l < 4294967296 := setOf_bd 32 (Sp.run l) (Nat.le_refl _)

set_option maxRecDepth 100000 in
theorem c_sOnlyTurns (v : Value) (t : Sp.Task) (w : World) (h : TaskV w v t) : Calls Tryd.prog 79 #[v] w (RetK (.bool (Sp.onlyTurns t)) w) := by
  obtain ⟨A, n, c, A', n', c', rfl⟩ := h.form
  have hk0 := (Kept.refl w).alloc (.cells #[.int .i64 t.start, .slice A n c, .slice A' n' c'] 30)
  have B0 := Blk.new w 30 #[.int .i64 t.start, .slice A n c, .slice A' n' c']
  have hn := h.deeds.le
  have HL := Lib.hid h.deeds.len
  cases hto : Sp.taskOk t
  · have HE : Hid (Sp.onlyTurns t = false) := by show _ = _; unfold Sp.onlyTurns; rw [hto]; rfl
    have HT := Lib.hid hto
    clear hto
    by_cases h0 : (0 : Int) < (n' : Int)
    · go_enter Tryd.func79, Tryd.ntmps79
      go_wp2_with fail
      refine wp_loop_rounds 1 ?_
      rw [rounds_succ]
      go_wp2_with fail
      refine (c_sTaskValid _ t _ h.box).mono ?_; rintro e w2 ⟨rfl, hk2⟩
      rw [HT.out]
      replace B0 := B0.kept hk2
      have c0 := B0.cell
      go_wp2_with fail
      refine (c_sTaskValid _ t _ (h.keep (hk0.trans hk2))).mono ?_; rintro e w3 ⟨rfl, hk3⟩
      rw [HT.out]
      go_wp2_with fail
      go_ret
      exact ⟨ret_bool HE.out.symm, (hk0.trans hk2).trans hk3⟩
    · go_enter Tryd.func79, Tryd.ntmps79
      go_wp2_with fail
      refine wp_loop_rounds 1 ?_
      rw [rounds_succ]
      go_wp2_with fail
      refine (c_sTaskValid _ t _ h.box).mono ?_; rintro e w2 ⟨rfl, hk2⟩
      rw [HT.out]
      go_wp2_with fail
      go_ret
      exact ⟨ret_bool HE.out.symm, hk0.trans hk2⟩
  have HT := Lib.hid hto
  clear hto
  go_enter Tryd.func79, Tryd.ntmps79
  go_wp2_with fail
  go_loopw [3] (fun i wr => ∃ k : Nat, k ≤ n' ∧ i = .int .i64 k ∧ Kept w wr ∧ Blk wr w.heap.size 30 #[.int .i64 t.start, .slice A n c, .slice A' n' c'] ∧ Hid ((t.deeds.take k).all Sp.turnOk = true)) (fun i _ => n' - (intOf i).toNat)
  case atStart => exact ⟨0, Nat.zero_le _, rfl, hk0, B0, rfl⟩
  case round =>
    obtain ⟨k, hk, rfl, hkp, hB, HA⟩ := hrel
    have c0 := hB.cell
    by_cases hlt : k < n'
    · go_wp2_with fail
      refine (c_sTaskValid _ t _ (h.keep hkp)).mono ?_; rintro e w2 ⟨rfl, hk2⟩
      rw [HT.out]
      replace hB := hB.kept hk2
      replace hkp := hkp.trans hk2
      clear c0 hk2
      have c0 := hB.cell
      have hkl : k < t.deeds.length := by rw [HL.out]; exact hlt
      obtain ⟨b, off, rfl, hb, hc⟩ := (h.keep hkp).deeds.at hlt
      have HY := Lib.hid (all_take_succ t.deeds Sp.turnOk k hkl)
      have HN := Lib.hid (@only_no t k hkl)
      have hdo := Sp.taskOk_deed HT.out hkl
      generalize t.deeds.getD k default = d at *
      obtain ⟨A2, n2, c2, hc0, hc1, hc2, hc3, hdv⟩ := hc.v
      obtain ⟨_, _, _, _, hneed, _⟩ := hdv
      obtain ⟨A2, n2, c2, q0, hI, hc1, hc2, hc3, _⟩ := hc
      have HC := Lib.hid (truth_codeTruth (deedOk_need hdo))
      have htb := truth_bd d.need
      clear hdo hneed hc0
      by_cases h1 : d.on = 0
      · have h1b : (d.on != 0) = false := by simp [h1]
        by_cases h2 : d.off = 0
        · have h2b : (d.off != 0) = false := by simp [h2]
          have HX : Hid (Sp.turnOk d = (Sp.truth d.need == 4294967295)) := by show _ = _; unfold Sp.turnOk; rw [h1, h2]; rfl
          clear h1 h2
          go_wp2_with fail
          refine (c_sCodeTruth _ _ _ _ _ hI).mono ?_; rintro e w3 ⟨rfl, hk3⟩
          rw [HC.out]
          by_cases h3 : Sp.truth d.need = 4294967295
          · have HX2 : Hid (Sp.turnOk d = true) := by show _ = true; rw [HX.out, h3]; rfl
            have HY' : Hid ((t.deeds.take (k + 1)).all Sp.turnOk = true) := by show _ = true; rw [HY.out, HA.out, HX2.out]; rfl
            have h3b : ((Sp.truth d.need : Int) != 4294967295) = false := by simp; omega
            clear h3
            go_wp2_with fail
            exact ⟨⟨k + 1, by omega, by go_num, hkp.trans hk3, hB.kept hk3, HY'⟩, by simp [intOf]; omega⟩
          · have HX2 : Hid (Sp.turnOk d = false) := by show _ = false; rw [HX.out]; simpa using h3
            have h3b : ((Sp.truth d.need : Int) != 4294967295) = true := by simp; omega
            clear h3
            go_wp2_with fail
            go_ret
            exact ⟨ret_bool (HN.out HX2.out).symm, hkp.trans hk3⟩
        · have HX : Hid (Sp.turnOk d = false) := by show _ = false; unfold Sp.turnOk; simp [h2]
          have h2b : (d.off != 0) = true := by simp [h2]
          clear h1 h2
          go_wp2_with fail
          go_ret
          exact ⟨ret_bool (HN.out HX.out).symm, hkp⟩
      · have HX : Hid (Sp.turnOk d = false) := by show _ = false; unfold Sp.turnOk; simp [h1]
        have h1b : (d.on != 0) = true := by simp [h1]
        clear h1
        go_wp2_with fail
        go_ret
        exact ⟨ret_bool (HN.out HX.out).symm, hkp⟩
    · have HX : Hid (Sp.onlyTurns t = true) := by
        have := HA.out
        rw [Sp.take_all _ k (by rw [HL.out]; omega)] at this
        show _ = true
        unfold Sp.onlyTurns
        rw [HT.out, this]; rfl
      go_wp2_with fail
      refine (c_sTaskValid _ t _ (h.keep hkp)).mono ?_; rintro e w2 ⟨rfl, hk2⟩
      rw [HT.out]
      go_wp2_with fail
      go_ret
      exact ⟨ret_bool HX.out.symm, hkp.trans hk2⟩

theorem c_iOnlyTurns (v : Value) (t : Sp.Task) (w : World) (h : TaskV w v t) : Calls Tryd.prog 77 #[v] w (RetK (.bool (Sp.onlyTurns t)) w) := by
  obtain ⟨A, n, c, A', n', c', rfl⟩ := h.form
  have hk0 := (Kept.refl w).alloc (.cells #[.int .i64 t.start, .slice A n c, .slice A' n' c'] 30)
  have B0 := Blk.new w 30 #[.int .i64 t.start, .slice A n c, .slice A' n' c']
  have hn := h.deeds.le
  have HL := Lib.hid h.deeds.len
  go_enter Tryd.func77, Tryd.ntmps77
  go_wp2_with fail
  refine (c_iTaskValid _ t _ h.box).mono ?_; rintro e w2 ⟨rfl, hk2⟩
  replace hk0 := hk0.trans hk2
  replace B0 := B0.kept hk2
  have c0 := B0.cell
  cases hto : Sp.taskOk t
  · have HE : Hid (Sp.onlyTurns t = false) := by show _ = _; unfold Sp.onlyTurns; rw [hto]; rfl
    clear hto
    go_wp2_with fail
    go_ret
    exact ⟨ret_bool HE.out.symm, hk0⟩
  have HT := Lib.hid hto
  clear hto
  go_wp2_with fail
  clear c0 B0 hk2
  go_loopw [11] (fun i wr => ∃ k : Nat, k ≤ n' ∧ i = .int .i64 k ∧ Kept w wr ∧ Hid ((t.deeds.take k).all Sp.turnOk = true)) (fun i _ => n' - (intOf i).toNat)
  case atStart => exact ⟨0, Nat.zero_le _, rfl, hk0, rfl⟩
  case round =>
    obtain ⟨k, hk, rfl, hkp, HA⟩ := hrel
    by_cases hlt : k < n'
    · have hkl : k < t.deeds.length := by rw [HL.out]; exact hlt
      obtain ⟨b, off, rfl, hb, hc⟩ := (h.keep hkp).deeds.at hlt
      have HY := Lib.hid (all_take_succ t.deeds Sp.turnOk k hkl)
      have HN := Lib.hid (@only_no t k hkl)
      have hdo := Sp.taskOk_deed HT.out hkl
      generalize t.deeds.getD k default = d at *
      obtain ⟨A2, n2, c2, hc0, hI, hc1, hc2, hc3, _⟩ := hc
      have hkb := (Kept.refl wr).alloc (.cells #[.slice A2 n2 c2, .int .i64 d.on, .int .i64 d.off, .int .i64 d.flip] 61)
      have HC := Lib.hid (truth_codeTruth (deedOk_need hdo))
      have htb := truth_bd d.need
      clear hdo
      by_cases h1 : d.on = 0
      · have h1b : (d.on != 0) = false := by simp [h1]
        by_cases h2 : d.off = 0
        · have h2b : (d.off != 0) = false := by simp [h2]
          have HX : Hid (Sp.turnOk d = (Sp.truth d.need == 4294967295)) := by show _ = _; unfold Sp.turnOk; rw [h1, h2]; rfl
          clear h1 h2
          go_wp2_with fail
          refine (c_iCodeTruth _ _ _ _ _ (hI.keep hkb)).mono ?_; rintro e w3 ⟨rfl, hk3⟩
          rw [HC.out]
          by_cases h3 : Sp.truth d.need = 4294967295
          · have HX2 : Hid (Sp.turnOk d = true) := by show _ = true; rw [HX.out, h3]; rfl
            have HY' : Hid ((t.deeds.take (k + 1)).all Sp.turnOk = true) := by show _ = true; rw [HY.out, HA.out, HX2.out]; rfl
            have h3b : ((Sp.truth d.need : Int) != 4294967295) = false := by simp; omega
            clear h3
            go_wp2_with fail
            exact ⟨⟨k + 1, by omega, by go_num, hkp.trans (hkb.trans hk3), HY'⟩, by simp [intOf]; omega⟩
          · have HX2 : Hid (Sp.turnOk d = false) := by show _ = false; rw [HX.out]; simpa using h3
            have h3b : ((Sp.truth d.need : Int) != 4294967295) = true := by simp; omega
            clear h3
            go_wp2_with fail
            go_ret
            exact ⟨ret_bool (HN.out HX2.out).symm, hkp.trans (hkb.trans hk3)⟩
        · have HX : Hid (Sp.turnOk d = false) := by show _ = false; unfold Sp.turnOk; simp [h2]
          have h2b : (d.off != 0) = true := by simp [h2]
          clear h1 h2
          go_wp2_with fail
          go_ret
          exact ⟨ret_bool (HN.out HX.out).symm, hkp.trans hkb⟩
      · have HX : Hid (Sp.turnOk d = false) := by show _ = false; unfold Sp.turnOk; simp [h1]
        have h1b : (d.on != 0) = true := by simp [h1]
        clear h1
        go_wp2_with fail
        go_ret
        exact ⟨ret_bool (HN.out HX.out).symm, hkp.trans hkb⟩
    · have HX : Hid (Sp.onlyTurns t = true) := by
        have := HA.out
        rw [Sp.take_all _ k (by rw [HL.out]; omega)] at this
        show _ = true
        unfold Sp.onlyTurns
        rw [HT.out, this]; rfl
      go_wp2_with fail
      go_ret
      exact ⟨ret_bool HX.out.symm, hkp⟩

end Go.Proofs.YtjmpfemlihjibaaDoor
