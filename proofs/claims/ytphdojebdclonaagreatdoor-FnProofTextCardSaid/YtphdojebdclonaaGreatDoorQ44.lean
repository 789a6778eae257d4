/- Joined texts. No condition. -/
import Derived.Deep.RegionHeld3
import Derived.Test.YtphdojebdclonaaGreatDoorQ16
import Derived.Test.YtphdojebdclonaaGreatDoorQ43
import Derived.Test.YtphdojebdclonaaGreatDoorQ22
/- Walks: the program's SumOk. No condition. -/
namespace Go.Proofs.YtphdojebdclonaaGreatDoor
set_option linter.unusedSimpArgs false
set_option linter.unusedVariables false
open Go.RowKit

set_option maxHeartbeats 1000000 in
theorem c_iSumOk (v : Value) (t : Sp.Task) (f : Int) (w : World) (h : TaskV w v t) : Calls Tryz.prog 48 #[v, .int .i64 f] w (RetK (.bool (Sp.sumOk t f)) w) := by
  obtain ⟨A, n, c, A', n', c', rfl⟩ := h.form
  have hk0 := (Kept.refl w).alloc (.cells #[.int .i64 t.start, .slice A n c, .slice A' n' c'] 26)
  have B0 := Blk.new w 26 #[.int .i64 t.start, .slice A n c, .slice A' n' c']
  have hn := h.deeds.le
  have HL := Lib.hid h.deeds.len
  cases hsf : Sp.stOk f
  · have HE : Hid (Sp.sumOk t f = false) := by show _ = _; unfold Sp.sumOk; rw [hsf]; simp
    go_enter Tryz.func48, Tryz.ntmps48
    go_wp2_with (first | (go_at_call 66; refine (c_stateOk _ _).mono ?_; rintro e w' ⟨rfl, rfl⟩))
    go_ret
    exact ⟨ret_bool HE.out.symm, hk0⟩
  have HF := Lib.hid hsf
  obtain ⟨hf0, hf1⟩ := st_bd hsf
  go_enter Tryz.func48, Tryz.ntmps48
  go_wp2_with (first | (go_at_call 66; refine (c_stateOk _ _).mono ?_; rintro e w' ⟨rfl, rfl⟩))
  refine (c_iOnlyTurns _ t _ h.box).mono ?_; rintro e w2 ⟨rfl, hk2⟩
  replace hk0 := hk0.trans hk2
  replace B0 := B0.kept hk2
  have c0 := B0.cell
  clear hsf
  cases hto : Sp.onlyTurns t
  · have HE : Hid (Sp.sumOk t f = false) := by show _ = _; unfold Sp.sumOk; rw [hto]; simp
    clear hto
    go_wp2_with fail
    go_ret
    exact ⟨ret_bool HE.out.symm, hk0⟩
  have HT := Lib.hid hto
  have HK := Lib.hid (onlyTurns_taskOk hto)
  clear hto
  go_wp2_with fail
  clear hk2 c0
  go_loopw [21] (fun i wr => ∃ k : Nat, k ≤ n' ∧ i = .int .i64 k ∧ Kept w wr ∧ Blk wr w.heap.size 26 #[.int .i64 t.start, .slice A n c, .slice A' n' c'] ∧ Hid ((t.deeds.take k).all (Sp.evenFlip f.toNat) = true)) (fun i _ => n' - (intOf i).toNat)
  case atStart => exact ⟨0, Nat.zero_le _, rfl, hk0, B0, rfl⟩
  case round =>
    obtain ⟨k, hk, rfl, hkp, hB, HA⟩ := hrel
    by_cases hlt : k < n'
    · have hkl : k < t.deeds.length := by rw [HL.out]; exact hlt
      obtain ⟨b, off, rfl, hb, hc⟩ := (h.keep hkp).deeds.at hlt
      have HY := Lib.hid (all_take_succ t.deeds (Sp.evenFlip f.toNat) k hkl)
      have HN := Lib.hid (@sumOk_no1 t f k hkl)
      have hdo := Sp.taskOk_deed HK.out hkl
      generalize t.deeds.getD k default = d at *
      obtain ⟨A2, n2, c2, q0, hI, hc1, hc2, hc3, _⟩ := hc
      have hkb := (Kept.refl wr).alloc (.cells #[.slice A2 n2 c2, .int .i64 d.on, .int .i64 d.off, .int .i64 d.flip] 62)
      obtain ⟨hl0, hl1⟩ := deedOk_flip hdo
      have ha1 : d.flip.toNat &&& f.toNat ≤ f.toNat := Nat.and_le_right
      have hcl := cnt_le (d.flip.toNat &&& f.toNat)
      have hand := i64_and d.flip f (by omega) (by omega) (by omega) (by omega)
      have hq := flip_b f.toNat d
      clear hdo
      cases hev : Sp.evenFlip f.toNat d
      all_goals
        rw [hev] at hq
        have HV := Lib.hid hev
        clear hev
        simp only [Bool.not_true, Bool.not_false] at hq
        go_wp2_with (first | (go_at_call 79; refine (c_countBits _ _ (by omega) (by omega)).mono ?_; rintro e w' ⟨rfl, rfl⟩))
      · go_ret
        exact ⟨ret_bool (HN.out HV.out).symm, hkp.trans hkb⟩
      · exact ⟨⟨k + 1, by omega, by go_num, hkp.trans hkb, hB.kept hkb, by show _ = true; rw [HY.out, HA.out, HV.out]; rfl⟩, by simp [intOf]; omega⟩
    · have HALL : Hid (t.deeds.all (Sp.evenFlip f.toNat) = true) := by have := HA.out; rwa [Sp.take_all _ k (by rw [HL.out]; omega)] at this
      have hgo := Sp.taskOk_goal HK.out
      obtain ⟨hs0, hs1⟩ := Sp.taskOk_start HK.out
      have HC := Lib.hid (truth_codeTruth hgo)
      clear hgo HA
      have c0 := hB.cell
      have ha2 : t.start.toNat &&& f.toNat ≤ f.toNat := Nat.and_le_right
      have hcl2 := cnt_le (t.start.toNat &&& f.toNat)
      have hand := i64_and t.start f (by omega) (by omega) (by omega) (by omega)
      go_wp2_with (first | (go_at_call 79; refine (c_countBits _ _ (by omega) (by omega)).mono ?_; rintro e w' ⟨rfl, rfl⟩))
      refine (c_iCodeTruth _ _ _ _ _ (h.keep hkp).goal).mono ?_; rintro e w3 ⟨rfl, hk3⟩
      rw [HC.out]
      replace hkp := hkp.trans hk3
      clear hk3 c0 hand
      have htb := truth_bd t.goal
      go_wp2_with fail
      go_loop [42] (fun i => ∃ k : Nat, k ≤ 32 ∧ i = .int .i64 k ∧ Hid (Sp.upTo k (Sp.apart t f.toNat) = true)) (fun i => 32 - (intOf i).toNat)
      case atStart => exact ⟨0, by omega, rfl, rfl⟩
      case round =>
        obtain ⟨j, hj, rfl, HU⟩ := hrel
        by_cases hlt2 : j < 32
        · have HY := Lib.hid (upTo_succ j (Sp.apart t f.toNat))
          have HN := Lib.hid (@sumOk_no2 t f j hlt2)
          have ha1 : j &&& f.toNat ≤ f.toNat := Nat.and_le_right
          have hcl := cnt_le (j &&& f.toNat)
          have hand := and_nat_int j f (by omega) (by omega) (by omega)
          have hab := and_bit (Sp.truth t.goal) j (by omega)
          have hb1 := bit_one ((Sp.truth t.goal).testBit j)
          have HBit : Hid ((Sp.truth t.goal).testBit j = Sp.run t.goal j) := by show _ = _; unfold Sp.truth; rw [Sp.testBit_setOf]; simp [hlt2]
          have hq := even_b2 t.start.toNat j f.toNat
          cases hev : (Sp.truth t.goal).testBit j
          · rw [hev] at hb1 hab
            have HV := Lib.hid hev
            clear hev hq
            go_wp2_with fail
            exact ⟨⟨j + 1, by omega, by go_num, by show _ = true; rw [HY.out, HU.out]; unfold Sp.apart; rw [← HBit.out, HV.out]; rfl⟩, by simp [intOf]; omega⟩
          · rw [hev] at hb1 hab
            have HV := Lib.hid hev
            clear hev
            cases hev2 : Sp.even t.start.toNat j f.toNat
            all_goals
              rw [hev2] at hq
              have HV2 := Lib.hid hev2
              clear hev2
              go_wp2_with (first | (go_at_call 79; refine (c_countBits _ _ (by omega) (by omega)).mono ?_; rintro e w' ⟨rfl, rfl⟩))
            · exact ⟨⟨j + 1, by omega, by go_num, by show _ = true; rw [HY.out, HU.out]; unfold Sp.apart; rw [HV2.out]; simp⟩, by simp [intOf]; omega⟩
            · go_ret
              exact ⟨ret_bool (HN.out (by unfold Sp.apart; rw [← HBit.out, HV.out, HV2.out]; rfl)).symm, hkp⟩
        · go_wp2_with fail
          go_ret
          obtain rfl : j = 32 := by omega
          exact ⟨ret_bool (by unfold Sp.sumOk; rw [HF.out, HT.out, HALL.out, HU.out]; rfl), hkp⟩

end Go.Proofs.YtphdojebdclonaaGreatDoor
/- Walks: the program's SumFor. No condition. -/
namespace Go.Proofs.YtphdojebdclonaaGreatDoor
set_option linter.unusedSimpArgs false
set_option linter.unusedVariables false
open Go.RowKit

theorem c_iSumFor (v : Value) (t : Sp.Task) (w : World) (h : TaskV w v t) : Calls Tryz.prog 26 #[v] w (RetK (.tuple #[.int .i64 (Sp.sumForN t), .bool (Sp.sumForB t)]) w) := by
  obtain ⟨A, n, c, A', n', c', rfl⟩ := h.form
  have hk0 := (Kept.refl w).alloc (.cells #[.int .i64 t.start, .slice A n c, .slice A' n' c'] 26)
  have B0 := Blk.new w 26 #[.int .i64 t.start, .slice A n c, .slice A' n' c']
  go_enter Tryz.func26, Tryz.ntmps26
  go_wp2_with fail
  go_loopw [5] (fun i wr => ∃ k : Nat, k ≤ 32 ∧ i = .int .i64 k ∧ Kept w wr ∧ Blk wr w.heap.size 26 #[.int .i64 t.start, .slice A n c, .slice A' n' c'] ∧ Hid (∀ j : Nat, j < k → Sp.sumOk t (j : Nat) = false)) (fun i _ => 32 - (intOf i).toNat)
  case atStart => exact ⟨0, by omega, rfl, hk0, B0, by show ∀ j : Nat, j < 0 → _; omega⟩
  case round =>
    obtain ⟨k, hk, rfl, hkp, hB, HA⟩ := hrel
    have c0 := hB.cell
    by_cases hlt : k < 32
    · cases hev : Sp.sumOk t (k : Nat)
      · have HV := Lib.hid hev
        clear hev
        go_wp2_with fail
        refine (c_iSumOk _ t _ _ (h.keep hkp)).mono ?_; rintro e w2 ⟨rfl, hk2⟩
        rw [HV.out]
        go_wp2_with fail
        refine ⟨⟨k + 1, by omega, by go_num, hkp.trans hk2, hB.kept hk2, ?_⟩, by simp [intOf]; omega⟩
        intro j hj
        by_cases e : j = k
        · subst e; exact HV.out
        · exact HA.out j (by omega)
      · have HV := Lib.hid hev
        have HX := Lib.hid (sumFor_yes hlt hev HA.out)
        clear hev
        go_wp2_with fail
        refine (c_iSumOk _ t _ _ (h.keep hkp)).mono ?_; rintro e w2 ⟨rfl, hk2⟩
        rw [HV.out]
        go_wp2_with fail
        go_ret2
        exact ⟨by rw [HX.out.1, HX.out.2]; rfl, hkp.trans hk2⟩
    · obtain rfl : k = 32 := by omega
      have HX := Lib.hid (sumFor_no HA.out)
      go_wp2_with fail
      go_ret2
      exact ⟨by rw [HX.out.1, HX.out.2]; rfl, hkp⟩

end Go.Proofs.YtphdojebdclonaaGreatDoor
/- The program's ProofRight. No condition. -/
namespace Go.Proofs.YtphdojebdclonaaGreatDoor
set_option linter.unusedSimpArgs false
set_option linter.unusedVariables false
open Go.RowKit

theorem right_plan {t : Sp.Task} {s r : List UInt8} {mm b : Bool} {l : List Int} (h : Lib.cut s [32] = ([112, 108, 97, 110], r, mm))
    (hq : (mm = false → b = true ∧ l = []) ∧ (mm = true → b = Sp.planRead (Sp.cutB 32 r) ∧ (b = true → l = (Sp.cutB 32 r).map (Sp.numV 2)))) :
    Sp.proofRight t s = if (b && Sp.planOk t l) = true then 1 else -1 := by
  cases mm with
  | false =>
    obtain ⟨rfl, rfl⟩ := hq.1 rfl
    rw [pr_plan0 h, Bool.true_and]
  | true =>
    obtain ⟨h1, h2⟩ := hq.2 rfl
    rw [pr_plan1 h, ← h1]
    cases b with
    | false => rfl
    | true => rw [h2 rfl]

set_option maxHeartbeats 4000000 in
set_option maxRecDepth 100000 in
theorem c_iProofRight (v : Value) (t : Sp.Task) (s : List UInt8) (m : Int) (w : World) (h : TaskV w v t) (hs20 : s.length ≤ 1048576) (hm0 : w.cell? ⟨1, 0, none⟩ = some (.int .i64 m)) (hg : ErrG w) :
    Calls Tryz.prog 12 #[v, .string ⟨s.toArray⟩] w (RetK (.int .i64 (Sp.proofRight t s)) w) := by
  have HG := Lib.hid hg
  have HM := Lib.hid hm0
  obtain ⟨A, n, c, A', n', c', rfl⟩ := h.form
  have hk0 := (Kept.refl w).alloc (.cells #[.int .i64 t.start, .slice A n c, .slice A' n' c'] 26)
  have B0 := Blk.new w 26 #[.int .i64 t.start, .slice A n c, .slice A' n' c']
  have hT := h.keep hk0
  have hm1 := hk0.at_ hm0
  clear hg hm0 h
  go_enter Tryz.func12, Tryz.ntmps12
  go_wp2_with fail
  refine (c_Cut s 32 m _ hs20 hm1).mono ?_; rintro e w2 ⟨rfl, hk2⟩
  have hbd := cut_bd s 32
  obtain ⟨k, r, mm, HC⟩ : ∃ k r mm, Hid (Lib.cut s [32] = (k, r, mm)) := ⟨_, _, _, rfl⟩
  rw [HC.out] at hbd
  rw [HC.out]
  simp only at hbd ⊢
  obtain ⟨_, hrl⟩ := hbd
  replace hk0 := hk0.trans hk2
  replace B0 := B0.kept hk2
  replace hT := hT.keep hk2
  clear hk2 hm1
  by_cases hp : k = [112, 108, 97, 110]
  · subst hp
    have hm2 := hk0.at_ HM.out
    go_wp2_with fail
    refine (c_readPlan r mm m _ (by omega) hm2).mono ?_; rintro e w3 ⟨v, rfl, ⟨A3, n3, c3, l, b, rfl, hI, HQ⟩, hk3⟩
    have HR := Lib.hid (right_plan (t := t) HC.out HQ.out)
    replace hk0 := hk0.trans hk3
    replace B0 := B0.kept hk3
    replace hT := hT.keep hk3
    clear hk3 hm2
    have c0 := B0.cell
    cases b
    · have HE : Hid (Sp.proofRight t s = -1) := HR.out
      go_wp2_with fail
      go_ret
      exact ⟨by rw [HE.out]; rfl, hk0⟩
    · skip
      go_wp2_with fail
      refine (c_iPlanOk _ t A3 n3 c3 l _ hT hI).mono ?_; rintro e w4 ⟨rfl, hk4⟩
      replace hk0 := hk0.trans hk4
      clear c0
      cases hv : Sp.planOk t l
      · have HE : Hid (Sp.proofRight t s = -1) := by show _ = _; rw [HR.out, hv]; rfl
        clear hv
        go_wp2_with fail
        go_ret
        exact ⟨by rw [HE.out]; rfl, hk0⟩
      · have HE : Hid (Sp.proofRight t s = 1) := by show _ = _; rw [HR.out, hv]; rfl
        clear hv
        go_wp2_with fail
        go_ret
        exact ⟨by rw [HE.out]; rfl, hk0⟩
  have hpf : (k == [112, 108, 97, 110]) = false := beq_eq_false_iff_ne.2 hp
  by_cases hc : k = [99, 108, 111, 115, 101, 100]
  · subst hc
    clear hp
    cases mm
    · have HE := Lib.hid (pr_closed0 (t := t) HC.out)
      go_wp2_with fail
      go_ret
      exact ⟨by rw [HE.out]; rfl, hk0⟩
    · have HR := Lib.hid (pr_closed (t := t) HC.out)
      go_wp2_with fail
      refine (c_readNumber r 10 _ (by omega) (by omega)).mono ?_; rintro e w3 ⟨rfl, hk3⟩
      replace hk0 := hk0.trans hk3
      replace B0 := B0.kept hk3
      replace hT := hT.keep hk3
      clear hk3
      have c0 := B0.cell
      cases hb : Sp.numB 10 r
      · have HE : Hid (Sp.proofRight t s = -1) := by show _ = _; rw [HR.out, hb]; rfl
        clear hb
        go_wp2_with fail
        go_ret
        exact ⟨by rw [HE.out]; rfl, hk0⟩
      · have HB := Lib.hid hb
        clear hb
        go_wp2_with fail
        refine (c_iClosedOk _ t (Sp.numV 10 r) _ hT (HG.out.keep hk0)).mono ?_; rintro e w4 ⟨rfl, hk4⟩
        replace hk0 := hk0.trans hk4
        clear c0
        cases hv : Sp.closedOk t (Sp.numV 10 r)
        · have HE : Hid (Sp.proofRight t s = -1) := by show _ = _; rw [HR.out, HB.out, hv]; rfl
          clear hv
          go_wp2_with fail
          go_ret
          exact ⟨by rw [HE.out]; rfl, hk0⟩
        · have HE : Hid (Sp.proofRight t s = 0) := by show _ = _; rw [HR.out, HB.out, hv]; rfl
          clear hv
          go_wp2_with fail
          go_ret
          exact ⟨by rw [HE.out]; rfl, hk0⟩
  have hcf : (k == [99, 108, 111, 115, 101, 100]) = false := beq_eq_false_iff_ne.2 hc
  by_cases hu : k = [115, 117, 109]
  · subst hu
    clear hp hc
    cases mm
    · have HE := Lib.hid (pr_sum0 (t := t) HC.out)
      go_wp2_with fail
      go_ret
      exact ⟨by rw [HE.out]; rfl, hk0⟩
    · have HR := Lib.hid (pr_sum (t := t) HC.out)
      go_wp2_with fail
      refine (c_readLetters r _).mono ?_; rintro e w3 ⟨rfl, hk3⟩
      replace hk0 := hk0.trans hk3
      replace B0 := B0.kept hk3
      replace hT := hT.keep hk3
      clear hk3
      have c0 := B0.cell
      cases hb : Sp.readSetB r
      · have HE : Hid (Sp.proofRight t s = -1) := by show _ = _; rw [HR.out, hb]; rfl
        clear hb
        go_wp2_with fail
        go_ret
        exact ⟨by rw [HE.out]; rfl, hk0⟩
      · have HB := Lib.hid hb
        clear hb
        go_wp2_with fail
        refine (c_iSumOk _ t (Sp.readSetV r) _ hT).mono ?_; rintro e w4 ⟨rfl, hk4⟩
        replace hk0 := hk0.trans hk4
        clear c0
        cases hv : Sp.sumOk t (Sp.readSetV r)
        · have HE : Hid (Sp.proofRight t s = -1) := by show _ = _; rw [HR.out, HB.out, hv]; rfl
          clear hv
          go_wp2_with fail
          go_ret
          exact ⟨by rw [HE.out]; rfl, hk0⟩
        · have HE : Hid (Sp.proofRight t s = 0) := by show _ = _; rw [HR.out, HB.out, hv]; rfl
          clear hv
          go_wp2_with fail
          go_ret
          exact ⟨by rw [HE.out]; rfl, hk0⟩
  have huf : (k == [115, 117, 109]) = false := beq_eq_false_iff_ne.2 hu
  have HE := Lib.hid (pr_none (t := t) HC.out hp hc hu)
  clear hp hc hu
  go_wp2_with fail
  go_ret
  exact ⟨by rw [HE.out]; rfl, hk0⟩

end Go.Proofs.YtphdojebdclonaaGreatDoor
