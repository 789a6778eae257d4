/- Joined texts. No condition. -/
import Derived.Test.YtphdojebdclonaaDoorQ16
import Derived.Test.YtphdojebdclonaaDoorQ15
import Derived.Test.YtphdojebdclonaaDoorQ17
/- Walks: LeadsTo and Reached. No condition. -/
namespace Go.Proofs.YtphdojebdclonaaDoor
set_option linter.unusedSimpArgs false
set_option linter.unusedVariables false
open Go.RowKit

theorem statesBack_nat {t : Sp.Task} (h : Sp.taskOk t = true) {s : Nat} (hs : s < 4294967296) : Sp.statesBack t (s : Nat) = (Sp.img (Sp.relB t) s : Nat) := by
  unfold Sp.statesBack
  rw [if_pos ⟨h, by unfold Sp.setOk; simp; omega⟩, Int.toNat_natCast]
theorem statesNext_nat {t : Sp.Task} (h : Sp.taskOk t = true) {s : Nat} (hs : s < 4294967296) : Sp.statesNext t (s : Nat) = (Sp.img (Sp.rel t) s : Nat) := by
  unfold Sp.statesNext
  rw [if_pos ⟨h, by unfold Sp.setOk; simp; omega⟩, Int.toNat_natCast]
























































































set_option maxHeartbeats 1000000 in
set_option maxRecDepth 100000 in
theorem c_iReached (v : Value) (t : Sp.Task) (w : World) (h : TaskV w v t) : Calls Tryd.prog 99 #[v] w (RetK (.int .i64 (Sp.reached t)) w) := by
  obtain ⟨A, n, c, A', n', c', rfl⟩ := h.form
  have hk0 := (Kept.refl w).alloc (.cells #[.int .i64 t.start, .slice A n c, .slice A' n' c'] 26)
  have B0 := Blk.new w 26 #[.int .i64 t.start, .slice A n c, .slice A' n' c']
  have hT := h.keep hk0
  go_enter Tryd.func99, Tryd.ntmps99
  go_wp2_with fail
  refine (c_iTaskValid _ t _ hT).mono ?_; rintro e w2 ⟨rfl, hk2⟩
  replace hk0 := hk0.trans hk2
  replace B0 := B0.kept hk2
  replace hT := hT.keep hk2
  clear hk2
  have c0 := B0.cell
  cases ht : Sp.taskOk t
  · have HE : Hid (Sp.reached t = -1) := by show _ = _; unfold Sp.reached; rw [ht]; simp
    clear ht
    go_wp2_with fail
    go_ret
    exact ⟨ret_int HE.out.symm, hk0⟩
  have HK := Lib.hid ht
  have HE : Hid (Sp.reached t = (Sp.reachedN t : Nat)) := by show _ = _; unfold Sp.reached; rw [if_pos ht]
  obtain ⟨hs0, hs1⟩ := Sp.taskOk_start ht
  obtain ⟨st, hst⟩ := Int.eq_ofNat_of_zero_le hs0
  have hS : 2 ^ t.start.toNat < 2 ^ 32 := start_set ht
  have HN : Hid (Sp.reachedN t = Sp.rch (Sp.rel t) (2 ^ t.start.toNat) 32) := rfl
  obtain ⟨S, HSd⟩ : ∃ S, Hid (2 ^ t.start.toNat = S) := ⟨2 ^ t.start.toNat, rfl⟩
  have hsh : ∀ T, binOp .shl T (.int .i64 1) (.int .i64 t.start) = pure (.int .i64 (S : Int)) := fun T => by
    rw [← HSd.out, hst, Int.toNat_natCast]
    have := bin_shl_one st (by omega) T
    rwa [p2_nat] at this
  rw [HSd.out] at hS HN
  clear hst
  obtain ⟨rel, HRel⟩ : ∃ rel, Hid (Sp.rel t = rel) := ⟨Sp.rel t, rfl⟩
  rw [HRel.out] at HN
  have hn6 := Sp.taskOk_len ht
  clear ht
  have HS : Hid (∀ w', Kept w2 w' → (w'.cell? ⟨w.heap.size, 0, none⟩ = some (.int .i64 t.start) ∧ w'.cell? ⟨w.heap.size, 1, none⟩ = some (.slice A n c) ∧ w'.cell? ⟨w.heap.size, 2, none⟩ = some (.slice A' n' c') ∧ Kept w2 w')) :=
    fun w' hk => ⟨(B0.kept hk).cell 0, (B0.kept hk).cell 1, (B0.kept hk).cell 2, hk⟩
  clear c0
  go_wp2_with fail
  go_region_held3 (fun w' => w'.cell? ⟨w.heap.size, 0, none⟩ = some (.int .i64 t.start) ∧ w'.cell? ⟨w.heap.size, 1, none⟩ = some (.slice A n c) ∧ w'.cell? ⟨w.heap.size, 2, none⟩ = some (.slice A' n' c') ∧ Kept w2 w')
    (first | exact HS.out _ (Kept.refl _) | exact HS.out _ (Kept.refl _).drew | exact HS.out _ (Kept.trans (by assumption) hk6))
    (first | (go_at_call 54; go_split_ands; refine (c_behindAll _ t _ (hT.keep (by assumption)) HK.out).mono ?_; rintro e w6 ⟨v, rfl, ⟨g, rfl, hg, hR⟩, hk6⟩))
  all_goals
    have hRow := (RowsF.of hR (fun k hk => Sp.taskOk_deed HK.out hk))
    go_split_ands
    replace hk0 := hk0.trans (show Kept w2 _ by assumption)
    clear hT hR hk6 
    go_wp2_with fail
    go_loopw [4] (fun o wr => ∃ m : Nat, m ≤ 31 ∧ o = .int .i64 (Sp.rch rel S m : Nat) ∧ Kept w wr ∧ RowsF wr g t.deeds.length (Sp.flat t.deeds)) (fun o _ => 4294967296 - (intOf o).toNat)
    case atStart => exact ⟨0, by omega, rfl, hk0, hRow⟩
    case round =>
      obtain ⟨m, hm, rfl, hkp, hRw⟩ := hrel
      have HSame := Lib.hid (@rch_same rel S hS m)
      have HMore := Lib.hid (@rch_more rel S hS m)
      have hlt := Sp.rch_lt (rel := rel) hS m
      have hlt1 := Sp.rch_lt (rel := rel) hS (m + 1)
      have hil := Sp.img_lt rel (Sp.rch rel S m)
      have hor := i64_or_nat (Sp.rch rel S m) (Sp.img rel (Sp.rch rel S m)) (by omega) (by omega)
      have HO : Hid (Sp.rch rel S m ||| Sp.img rel (Sp.rch rel S m) = Sp.rch rel S (m + 1)) := rfl
      rw [HO.out] at hor
      have hstep := c_nextStates g t.deeds.length t.deeds.length (Sp.flat t.deeds) (Sp.rch rel S m) wr hRw (by omega) hn6
      have HR : Hid (Sp.img (Sp.edge t.deeds.length (Sp.flat t.deeds)) (Sp.rch rel S m) = Sp.img rel (Sp.rch rel S m)) := by rw [← HRel.out]; rfl
      rw [HR.out] at hstep
      clear HR
      have hle : Sp.rch rel S m ≤ Sp.rch rel S (m + 1) := Nat.left_le_or
      obtain ⟨T, HT⟩ : ∃ T, Hid (Sp.rch rel S m = T) := ⟨_, rfl⟩
      obtain ⟨T1, HT1⟩ : ∃ T1, Hid (Sp.rch rel S (m + 1) = T1) := ⟨_, rfl⟩
      obtain ⟨I, HI⟩ : ∃ I, Hid (Sp.img rel T = I) := ⟨_, rfl⟩
      rw [HT.out, HI.out] at hstep hor
      rw [HT.out] at hlt hle hil HMore HSame
      rw [HT1.out] at hlt1 hle hor HMore HSame
      rw [HI.out] at hil
      rw [HT.out]
      go_wp2_with fail
      refine hstep.mono ?_; rintro e w9 ⟨rfl, hk9⟩
      replace hkp := hkp.trans hk9
      replace hRw := hRw.keep hk9
      clear hk9 hstep HO
      by_cases he : T1 = T
      · have HX := Lib.hid (HSame.out he hm)
        subst he
        go_wp2_with fail
        go_ret
        exact ⟨ret_int (by rw [HE.out, HN.out, HX.out]), hkp⟩
      · have hne : ¬ (T1 : Int) = (T : Int) := by omega
        have hneb : ((T1 : Int) == (T : Int)) = false := beq_eq_false_iff_ne.2 hne
        have hm1 := HMore.out he
        go_wp2_with fail
        exact ⟨⟨m + 1, hm1, by rw [HT1.out], hkp, hRw⟩, by simp [intOf]; omega⟩




















































































set_option maxHeartbeats 1000000 in
set_option maxRecDepth 100000 in
theorem c_sReached (v : Value) (t : Sp.Task) (w : World) (h : TaskV w v t) : Calls Tryd.prog 96 #[v] w (RetK (.int .i64 (Sp.reached t)) w) := by
  obtain ⟨A, n, c, A', n', c', rfl⟩ := h.form
  have hk0 := (Kept.refl w).alloc (.cells #[.int .i64 t.start, .slice A n c, .slice A' n' c'] 26)
  have B0 := Blk.new w 26 #[.int .i64 t.start, .slice A n c, .slice A' n' c']
  have hT := h.keep hk0
  go_enter Tryd.func96, Tryd.ntmps96
  go_wp2_with fail
  refine (c_sTaskValid _ t _ hT).mono ?_; rintro e w2 ⟨rfl, hk2⟩
  replace hk0 := hk0.trans hk2
  replace B0 := B0.kept hk2
  replace hT := hT.keep hk2
  clear hk2
  have c0 := B0.cell
  cases ht : Sp.taskOk t
  · have HE : Hid (Sp.reached t = -1) := by show _ = _; unfold Sp.reached; rw [ht]; simp
    clear ht
    go_wp2_with fail
    go_ret
    exact ⟨ret_int HE.out.symm, hk0⟩
  have HK := Lib.hid ht
  have HE : Hid (Sp.reached t = (Sp.reachedN t : Nat)) := by show _ = _; unfold Sp.reached; rw [if_pos ht]
  obtain ⟨hs0, hs1⟩ := Sp.taskOk_start ht
  obtain ⟨st, hst⟩ := Int.eq_ofNat_of_zero_le hs0
  have hS : 2 ^ t.start.toNat < 2 ^ 32 := start_set ht
  have HN : Hid (Sp.reachedN t = Sp.rch (Sp.rel t) (2 ^ t.start.toNat) 32) := rfl
  obtain ⟨S, HSd⟩ : ∃ S, Hid (2 ^ t.start.toNat = S) := ⟨2 ^ t.start.toNat, rfl⟩
  have hsh : ∀ T, binOp .shl T (.int .i64 1) (.int .i64 t.start) = pure (.int .i64 (S : Int)) := fun T => by
    rw [← HSd.out, hst, Int.toNat_natCast]
    have := bin_shl_one st (by omega) T
    rwa [p2_nat] at this
  rw [HSd.out] at hS HN
  clear hst
  obtain ⟨rel, HRel⟩ : ∃ rel, Hid (Sp.rel t = rel) := ⟨Sp.rel t, rfl⟩
  rw [HRel.out] at HN
  clear ht
  clear hT
  go_wp2_with fail
  clear c0
  go_loopw [3] (fun o wr => ∃ m : Nat, m ≤ 31 ∧ o = .int .i64 (Sp.rch rel S m : Nat) ∧ Kept w wr ∧ Blk wr w.heap.size 26 #[.int .i64 t.start, .slice A n c, .slice A' n' c']) (fun o _ => 4294967296 - (intOf o).toNat)
  case atStart => exact ⟨0, by omega, rfl, hk0, B0⟩
  case round =>
    obtain ⟨m, hm, rfl, hkp, hB⟩ := hrel
    have c0 := hB.cell
    have hT := h.keep hkp
    have HSame := Lib.hid (@rch_same rel S hS m)
    have HMore := Lib.hid (@rch_more rel S hS m)
    have hlt := Sp.rch_lt (rel := rel) hS m
    have hlt1 := Sp.rch_lt (rel := rel) hS (m + 1)
    have hil := Sp.img_lt rel (Sp.rch rel S m)
    have HO : Hid (Sp.rch rel S m ||| Sp.img rel (Sp.rch rel S m) = Sp.rch rel S (m + 1)) := rfl
    have HNx := Lib.hid (statesNext_nat (t := t) HK.out (s := Sp.rch rel S m) hlt)
    rw [HRel.out] at HNx
    have hle : Sp.rch rel S m ≤ Sp.rch rel S (m + 1) := Nat.left_le_or
    obtain ⟨T, HT⟩ : ∃ T, Hid (Sp.rch rel S m = T) := ⟨_, rfl⟩
    obtain ⟨T1, HT1⟩ : ∃ T1, Hid (Sp.rch rel S (m + 1) = T1) := ⟨_, rfl⟩
    obtain ⟨I, HI⟩ : ∃ I, Hid (Sp.img rel T = I) := ⟨_, rfl⟩
    rw [HT.out] at hlt hle hil HMore HSame HO HNx
    rw [HT1.out] at hlt1 hle HMore HSame HO
    rw [HI.out] at hil HO HNx
    rw [HT.out]
    have hor := c_l1Either (T : Int) (I : Int)
    rw [Int.toNat_natCast, Int.toNat_natCast, HO.out] at hor
    go_wp2_with fail
    refine (c_sStatesNext _ t (T : Int) _ hT).mono ?_; rintro e w9 ⟨rfl, hk9⟩
    rw [HNx.out]
    replace hkp := hkp.trans hk9
    replace hB := hB.kept hk9
    clear hk9 c0 hT
    go_wp2_with fail
    refine (hor _ (by omega) (by omega) (by omega) (by omega)).mono ?_; rintro e w10 ⟨rfl, rfl⟩
    clear hor HO
    by_cases he : T1 = T
    · have HX := Lib.hid (HSame.out he hm)
      subst he
      go_wp2_with fail
      go_ret
      exact ⟨ret_int (by rw [HE.out, HN.out, HX.out]), hkp⟩
    · have hne : ¬ (T1 : Int) = (T : Int) := by omega
      have hneb : ((T1 : Int) == (T : Int)) = false := beq_eq_false_iff_ne.2 hne
      have hm1 := HMore.out he
      go_wp2_with fail
      exact ⟨⟨m + 1, hm1, by rw [HT1.out], hkp, hB⟩, by simp [intOf]; omega⟩

end Go.Proofs.YtphdojebdclonaaDoor
