/- Walks: plans as they run. No condition. -/
import Derived.Test.YtphdojebdclonaaG26
import Derived.Test.YtphdojebdclonaaA5
import Derived.Deep.RegionHeld3
namespace Go.Proofs.Ytphdojebdclonaa
open Go.RowKit

set_option maxHeartbeats 4000000 in
set_option maxRecDepth 100000 in
theorem c_iPlanRun (v : Value) (t : Sp.Task) (s : Int) (A2 : Option Addr) (n2 c2 : Nat) (l : List Int) (w : World) (h : TaskV w v t) (hP : Ints w A2 n2 l) : Calls Try.prog 30 #[v, .int .i64 s, .slice A2 n2 c2] w (RetK (.int .i64 (Sp.planRun t s l)) w) := by
  obtain ⟨A, n, c, A', n', c', rfl⟩ := h.form
  have hk0 := (Kept.refl w).alloc (.cells #[.int .i64 t.start, .slice A n c, .slice A' n' c'] 30)
  have B0 := Blk.new w 30 #[.int .i64 t.start, .slice A n c, .slice A' n' c']
  have hT := h.keep hk0
  go_enter Try.func30, Try.ntmps30
  go_wp2_with fail
  refine (c_iTaskValid _ t _ hT).mono ?_; rintro e w2 ⟨rfl, hk2⟩
  replace hk0 := hk0.trans hk2
  replace B0 := B0.kept hk2
  replace hT := hT.keep hk2
  clear hk2
  have c0 := B0.cell
  cases ht : Sp.taskOk t
  · have HE : Hid (Sp.planRun t s l = -1) := by show _ = _; unfold Sp.planRun; rw [ht]; simp
    clear ht
    go_wp2_with fail
    go_ret
    exact ⟨ret_int HE.out.symm, hk0⟩
  have HK := Lib.hid ht
  cases hq : Sp.stOk s
  · have HE : Hid (Sp.planRun t s l = -1) := by show _ = _; unfold Sp.planRun; rw [hq]; simp
    have HQ := Lib.hid hq
    clear ht hq
    go_wp2_with (first | (go_at_call 58; refine (c_stateOk s _).mono ?_; rintro e w3 ⟨rfl, rfl⟩; rw [HQ.out]))
    go_ret
    exact ⟨ret_int HE.out.symm, hk0⟩
  have HQ := Lib.hid hq
  have HLn := Lib.hid hP.len
  by_cases h40 : 40 < n2
  · have HE : Hid (Sp.planRun t s l = -1) := by show _ = _; unfold Sp.planRun; rw [if_neg]; rw [HLn.out]; omega
    have h41 : (40 : Int) < (n2 : Int) := by omega
    clear ht hq
    go_wp2_with (first | (go_at_call 58; refine (c_stateOk s _).mono ?_; rintro e w3 ⟨rfl, rfl⟩; rw [HQ.out]))
    go_ret
    exact ⟨ret_int HE.out.symm, hk0⟩
  have HE : Hid (Sp.planRun t s l = Sp.goOn t s.toNat l) := by show _ = _; unfold Sp.planRun; rw [if_pos ⟨ht, hq, by rw [HLn.out]; omega⟩]
  have h41 : ¬ (40 : Int) < (n2 : Int) := by omega
  have hq2 := hq
  unfold Sp.stOk at hq2
  simp only [decide_eq_true_eq] at hq2
  obtain ⟨s0, rfl⟩ := Int.eq_ofNat_of_zero_le hq2.1
  have hs0 : s0 < 32 := by omega
  have HLd := Lib.hid hT.deeds.len
  have hnl := hT.deeds.le
  clear ht hq hq2
  go_wp2_with (first | (go_at_call 58; refine (c_stateOk (s0 : Int) _).mono ?_; rintro e w3 ⟨rfl, rfl⟩; rw [HQ.out]))
  rw [Int.toNat_natCast] at HE
  clear c0
  go_loopw [24, 1] (fun i v wr => ∃ k u : Nat, k ≤ n2 ∧ i = .int .i64 k ∧ v = .int .i64 u ∧ u < 32 ∧ Hid (Sp.goOn t s0 (l.take k) = (u : Int)) ∧ Kept w2 wr) (fun i _ _ => n2 - (intOf i).toNat)
  case atStart => exact ⟨0, s0, by omega, rfl, rfl, hs0, by show Sp.goOn t s0 [] = _; rfl, Kept.refl _⟩
  case round =>
    obtain ⟨k, u, hk, rfl, rfl, hu, HG, hkp⟩ := hrel
    have c0 := (B0.kept hkp).cell
    by_cases hlt : k < n2
    · obtain ⟨b, off, rfl, hb, hc, hi⟩ := ((hP.keep hk0).keep hkp).at hlt
      have HN := Lib.hid (goOn_next (t := t) (s := s0) (i := k) (u := u) (by rw [HLn.out]; exact hlt) HG.out)
      have HBad := Lib.hid (@goOn_bad t s0 l (k + 1))
      obtain ⟨q, Hq⟩ : ∃ q, Hid (l.getD k default = q) := ⟨_, rfl⟩
      rw [Hq.out] at hc HN hi
      unfold Sp.inI at hi
      by_cases hq0 : q < 0
      · have HX : Hid (Sp.goOn t s0 l = -1) := HBad.out (by rw [HN.out, if_neg (by omega)]; omega)
        clear HN HBad
        go_wp2_with fail
        go_ret
        exact ⟨ret_int (by rw [HE.out, HX.out]), hk0.trans hkp⟩
      · obtain ⟨q, rfl⟩ := Int.eq_ofNat_of_zero_le (show 0 ≤ q by omega)
        rw [Int.toNat_natCast, HLd.out] at HN
        by_cases hqn : q < n'
        · have hkl : q < t.deeds.length := by rw [HLd.out]; exact hqn
          obtain ⟨b2, off2, rfl, hb2, hd⟩ := (hT.keep hkp).deeds.at hqn
          have HDo := Lib.hid (Sp.taskOk_deed HK.out hkl)
          have hbd := stepI_bd (d := t.deeds.getD q default) hu HDo.out
          generalize t.deeds.getD q default = d at *
          obtain ⟨A5, n5, c5, hc0, hc1, hc2, hc3, hdv⟩ := hd.v
          have HDv := Lib.hid hdv
          clear hdv hd
          have hqn2 : ¬ (n' : Int) ≤ (q : Int) := by omega
          go_wp2_with fail
          refine (c_behindDeed _ d (u : Int) _ HDv.out HDo.out (by omega) (by omega)).mono ?_; rintro e w7 ⟨rfl, hk7⟩
          rw [Int.toNat_natCast]
          replace hkp := hkp.trans hk7
          clear hk7 c0 hc0 hc1 hc2 hc3 HDv hc
          obtain ⟨y, HY⟩ : ∃ y, Hid (Sp.stepI d u = y) := ⟨_, rfl⟩
          rw [HY.out] at hbd HN ⊢
          by_cases hy : y < 0
          · have HX : Hid (Sp.goOn t s0 l = -1) := HBad.out (by rw [HN.out, if_neg (by omega)]; omega)
            clear HN HBad
            go_wp2_with fail
            go_ret
            exact ⟨ret_int (by rw [HE.out, HX.out]), hk0.trans hkp⟩
          · obtain ⟨u2, rfl⟩ := Int.eq_ofNat_of_zero_le (show 0 ≤ y by omega)
            have HX : Hid (Sp.goOn t s0 (l.take (k + 1)) = (u2 : Int)) := by show _ = _; rw [HN.out, if_pos ⟨by omega, by omega, by omega⟩]
            clear HN HBad
            go_wp2_with fail
            exact ⟨⟨k + 1, u2, by omega, by go_num, rfl, by omega, HX, hkp⟩, by simp [intOf]; omega⟩
        · have HX : Hid (Sp.goOn t s0 l = -1) := HBad.out (by rw [HN.out, if_neg (by omega)]; omega)
          have hqn2 : (n' : Int) ≤ (q : Int) := by omega
          clear HN HBad
          go_wp2_with fail
          go_ret
          exact ⟨ret_int (by rw [HE.out, HX.out]), hk0.trans hkp⟩
    · obtain rfl : k = n2 := by omega
      have HX : Hid (Sp.goOn t s0 l = (u : Int)) := by show _ = _; rw [← HG.out, List.take_of_length_le (by rw [HLn.out]; omega)]
      go_wp2_with fail
      go_ret
      exact ⟨ret_int (by rw [HE.out, HX.out]), hk0.trans hkp⟩






































end Go.Proofs.Ytphdojebdclonaa
