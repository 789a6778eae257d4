/- Joined texts. No condition. -/
import Derived.Test.YtphdojebdclonaaGreatDoorQ9
import Derived.Test.YtphdojebdclonaaGreatDoorQ18
import Derived.Test.YtphdojebdclonaaGreatDoorQ21
/- Walks: LeadsTo and Reached. No condition. -/
namespace Go.Proofs.YtphdojebdclonaaGreatDoor
set_option linter.unusedSimpArgs false
set_option linter.unusedVariables false
open Go.RowKit

theorem statesBack_nat {t : Sp.Task} (h : Sp.taskOk t = true) {s : Nat} (hs : s < 4294967296) : Sp.statesBack t (s : Nat) = (Sp.img (Sp.relB t) s : Nat) := by
  unfold Sp.statesBack
  rw [if_pos ⟨h, by unfold Sp.setOk; simp; omega⟩, Int.toNat_natCast]
theorem statesNext_nat {t : Sp.Task} (h : Sp.taskOk t = true) {s : Nat} (hs : s < 4294967296) : Sp.statesNext t (s : Nat) = (Sp.img (Sp.rel t) s : Nat) := by
  unfold Sp.statesNext
  rw [if_pos ⟨h, by unfold Sp.setOk; simp; omega⟩, Int.toNat_natCast]

set_option maxHeartbeats 1000000 in
set_option maxRecDepth 100000 in
theorem c_iLeadsTo (v : Value) (t : Sp.Task) (w : World) (h : TaskV w v t) : Calls Tryz.prog 18 #[v] w (RetK (.int .i64 (Sp.leadsTo t)) w) := by
  obtain ⟨A, n, c, A', n', c', rfl⟩ := h.form
  have hk0 := (Kept.refl w).alloc (.cells #[.int .i64 t.start, .slice A n c, .slice A' n' c'] 26)
  have B0 := Blk.new w 26 #[.int .i64 t.start, .slice A n c, .slice A' n' c']
  have hT := h.keep hk0
  go_enter Tryz.func18, Tryz.ntmps18
  go_wp2_with fail
  refine (c_iTaskValid _ t _ hT).mono ?_; rintro e w2 ⟨rfl, hk2⟩
  replace hk0 := hk0.trans hk2
  replace B0 := B0.kept hk2
  replace hT := hT.keep hk2
  clear hk2
  have c0 := B0.cell
  cases ht : Sp.taskOk t
  · have HE : Hid (Sp.leadsTo t = -1) := by show _ = _; unfold Sp.leadsTo; rw [ht]; simp
    clear ht
    go_wp2_with fail
    go_ret
    exact ⟨ret_int HE.out.symm, hk0⟩
  have HK := Lib.hid ht
  have HE : Hid (Sp.leadsTo t = (Sp.leadsN t : Nat)) := by show _ = _; unfold Sp.leadsTo; rw [if_pos ht]
  have HC : Hid (Sp.codeTruth t.goal = (Sp.truth t.goal : Nat)) := by show _ = _; exact truth_codeTruth (Sp.taskOk_goal ht)
  have hS : Sp.truth t.goal < 2 ^ 32 := truth_bd t.goal
  have HN : Hid (Sp.leadsN t = Sp.rch (Sp.relB t) (Sp.truth t.goal) 32) := rfl
  obtain ⟨S, HSd⟩ : ∃ S, Hid (Sp.truth t.goal = S) := ⟨Sp.truth t.goal, rfl⟩
  rw [HSd.out] at hS HC HN
  obtain ⟨rel, HRel⟩ : ∃ rel, Hid (Sp.relB t = rel) := ⟨Sp.relB t, rfl⟩
  rw [HRel.out] at HN
  have hn6 := Sp.taskOk_len ht
  clear ht
  have HS : Hid (∀ w', Kept w2 w' → (w'.cell? ⟨w.heap.size, 0, none⟩ = some (.int .i64 t.start) ∧ w'.cell? ⟨w.heap.size, 1, none⟩ = some (.slice A n c) ∧ w'.cell? ⟨w.heap.size, 2, none⟩ = some (.slice A' n' c') ∧ Kept w2 w')) :=
    fun w' hk => ⟨(B0.kept hk).cell 0, (B0.kept hk).cell 1, (B0.kept hk).cell 2, hk⟩
  clear c0
  go_wp2_with fail
  go_region_held3 (fun w' => w'.cell? ⟨w.heap.size, 0, none⟩ = some (.int .i64 t.start) ∧ w'.cell? ⟨w.heap.size, 1, none⟩ = some (.slice A n c) ∧ w'.cell? ⟨w.heap.size, 2, none⟩ = some (.slice A' n' c') ∧ Kept w2 w')
    (first | exact HS.out _ (Kept.refl _) | exact HS.out _ (Kept.refl _).drew | exact HS.out _ (Kept.trans (by assumption) hk6) | exact HS.out _ (Kept.trans (by assumption) hk8))
    (first | (go_at_call 39; go_split_ands; refine (c_behindAll _ t _ (hT.keep (by assumption)) HK.out).mono ?_; rintro e w6 ⟨v, rfl, ⟨g, rfl, hg, hR⟩, hk6⟩) | (go_at_call 41; go_split_ands; refine (c_iCodeTruth _ _ _ _ _ (hT.keep (by assumption)).goal).mono ?_; rintro e w8 ⟨rfl, hk8⟩; rw [HC.out]))
  all_goals
    have hRow := (RowsF.of hR (fun k hk => Sp.taskOk_deed HK.out hk)).keep hk8
    go_split_ands
    replace hk0 := hk0.trans (show Kept w2 _ by assumption)
    clear hT hR hk6 hk8
    go_wp2_with fail
    go_loopw [4] (fun o wr => ∃ m : Nat, m ≤ 31 ∧ o = .int .i64 (Sp.rch rel S m : Nat) ∧ Kept w wr ∧ RowsF wr g t.deeds.length (Sp.flat t.deeds)) (fun o _ => 4294967296 - (intOf o).toNat)
    case atStart => exact ⟨0, by omega, rfl, hk0, hRow⟩
    case round =>
      obtain ⟨m, hm, rfl, hkp, hRw⟩ := hrel
      have HSame := Lib.hid (@rch_same rel S hS m)
      have HMore := Lib.hid (@rch_more rel S hS m)
      have hlt := Sp.rch_lt (rel := rel) hS m
      have hlt1 := Sp.rch_lt (rel := rel) hS (m + 1)
      have hil := Sp.img_lt rel (Sp.rch rel S m)
      have hor := i64_or_nat (Sp.rch rel S m) (Sp.img rel (Sp.rch rel S m)) (by omega) (by omega)
      have HO : Hid (Sp.rch rel S m ||| Sp.img rel (Sp.rch rel S m) = Sp.rch rel S (m + 1)) := rfl
      rw [HO.out] at hor
      have hstep := c_backStates g t.deeds.length t.deeds.length (Sp.flat t.deeds) (Sp.rch rel S m) wr hRw (by omega) hn6
      have HR : Hid (Sp.img (Sp.rev (Sp.edge t.deeds.length (Sp.flat t.deeds))) (Sp.rch rel S m) = Sp.img rel (Sp.rch rel S m)) := by rw [← HRel.out]; rfl
      rw [HR.out] at hstep
      clear HR
      have hle : Sp.rch rel S m ≤ Sp.rch rel S (m + 1) := Nat.left_le_or
      obtain ⟨T, HT⟩ : ∃ T, Hid (Sp.rch rel S m = T) := ⟨_, rfl⟩
      obtain ⟨T1, HT1⟩ : ∃ T1, Hid (Sp.rch rel S (m + 1) = T1) := ⟨_, rfl⟩
      obtain ⟨I, HI⟩ : ∃ I, Hid (Sp.img rel T = I) := ⟨_, rfl⟩
      rw [HT.out, HI.out] at hstep hor
      rw [HT.out] at hlt hle hil HMore HSame
      rw [HT1.out] at hlt1 hle hor HMore HSame
      rw [HI.out] at hil
      rw [HT.out]
      go_wp2_with fail
      refine hstep.mono ?_; rintro e w9 ⟨rfl, hk9⟩
      replace hkp := hkp.trans hk9
      replace hRw := hRw.keep hk9
      clear hk9 hstep HO
      by_cases he : T1 = T
      · have HX := Lib.hid (HSame.out he hm)
        subst he
        go_wp2_with fail
        go_ret
        exact ⟨ret_int (by rw [HE.out, HN.out, HX.out]), hkp⟩
      · have hne : ¬ (T1 : Int) = (T : Int) := by omega
        have hneb : ((T1 : Int) == (T : Int)) = false := beq_eq_false_iff_ne.2 hne
        have hm1 := HMore.out he
        go_wp2_with fail
        exact ⟨⟨m + 1, hm1, by rw [HT1.out], hkp, hRw⟩, by simp [intOf]; omega⟩

set_option maxHeartbeats 1000000 in
set_option maxRecDepth 100000 in
theorem c_iReached (v : Value) (t : Sp.Task) (w : World) (h : TaskV w v t) : Calls Tryz.prog 28 #[v] w (RetK (.int .i64 (Sp.reached t)) w) := by
  obtain ⟨A, n, c, A', n', c', rfl⟩ := h.form
  have hk0 := (Kept.refl w).alloc (.cells #[.int .i64 t.start, .slice A n c, .slice A' n' c'] 26)
  have B0 := Blk.new w 26 #[.int .i64 t.start, .slice A n c, .slice A' n' c']
  have hT := h.keep hk0
  go_enter Tryz.func28, Tryz.ntmps28
  go_wp2_with fail
  refine (c_iTaskValid _ t _ hT).mono ?_; rintro e w2 ⟨rfl, hk2⟩
  replace hk0 := hk0.trans hk2
  replace B0 := B0.kept hk2
  replace hT := hT.keep hk2
  clear hk2
  have c0 := B0.cell
  cases ht : Sp.taskOk t
  · have HE : Hid (Sp.reached t = -1) := by show _ = _; unfold Sp.reached; rw [ht]; simp
    clear ht
    go_wp2_with fail
    go_ret
    exact ⟨ret_int HE.out.symm, hk0⟩
  have HK := Lib.hid ht
  have HE : Hid (Sp.reached t = (Sp.reachedN t : Nat)) := by show _ = _; unfold Sp.reached; rw [if_pos ht]
  obtain ⟨hs0, hs1⟩ := Sp.taskOk_start ht
  obtain ⟨st, hst⟩ := Int.eq_ofNat_of_zero_le hs0
  have hS : 2 ^ t.start.toNat < 2 ^ 32 := start_set ht
  have HN : Hid (Sp.reachedN t = Sp.rch (Sp.rel t) (2 ^ t.start.toNat) 32) := rfl
  obtain ⟨S, HSd⟩ : ∃ S, Hid (2 ^ t.start.toNat = S) := ⟨2 ^ t.start.toNat, rfl⟩
  have hsh : ∀ T, binOp .shl T (.int .i64 1) (.int .i64 t.start) = pure (.int .i64 (S : Int)) := fun T => by
    rw [← HSd.out, hst, Int.toNat_natCast]
    have := bin_shl_one st (by omega) T
    rwa [p2_nat] at this
  rw [HSd.out] at hS HN
  clear hst
  obtain ⟨rel, HRel⟩ : ∃ rel, Hid (Sp.rel t = rel) := ⟨Sp.rel t, rfl⟩
  rw [HRel.out] at HN
  have hn6 := Sp.taskOk_len ht
  clear ht
  have HS : Hid (∀ w', Kept w2 w' → (w'.cell? ⟨w.heap.size, 0, none⟩ = some (.int .i64 t.start) ∧ w'.cell? ⟨w.heap.size, 1, none⟩ = some (.slice A n c) ∧ w'.cell? ⟨w.heap.size, 2, none⟩ = some (.slice A' n' c') ∧ Kept w2 w')) :=
    fun w' hk => ⟨(B0.kept hk).cell 0, (B0.kept hk).cell 1, (B0.kept hk).cell 2, hk⟩
  clear c0
  go_wp2_with fail
  go_region_held3 (fun w' => w'.cell? ⟨w.heap.size, 0, none⟩ = some (.int .i64 t.start) ∧ w'.cell? ⟨w.heap.size, 1, none⟩ = some (.slice A n c) ∧ w'.cell? ⟨w.heap.size, 2, none⟩ = some (.slice A' n' c') ∧ Kept w2 w')
    (first | exact HS.out _ (Kept.refl _) | exact HS.out _ (Kept.refl _).drew | exact HS.out _ (Kept.trans (by assumption) hk6))
    (first | (go_at_call 39; go_split_ands; refine (c_behindAll _ t _ (hT.keep (by assumption)) HK.out).mono ?_; rintro e w6 ⟨v, rfl, ⟨g, rfl, hg, hR⟩, hk6⟩))
  all_goals
    have hRow := (RowsF.of hR (fun k hk => Sp.taskOk_deed HK.out hk))
    go_split_ands
    replace hk0 := hk0.trans (show Kept w2 _ by assumption)
    clear hT hR hk6 
    go_wp2_with fail
    go_loopw [4] (fun o wr => ∃ m : Nat, m ≤ 31 ∧ o = .int .i64 (Sp.rch rel S m : Nat) ∧ Kept w wr ∧ RowsF wr g t.deeds.length (Sp.flat t.deeds)) (fun o _ => 4294967296 - (intOf o).toNat)
    case atStart => exact ⟨0, by omega, rfl, hk0, hRow⟩
    case round =>
      obtain ⟨m, hm, rfl, hkp, hRw⟩ := hrel
      have HSame := Lib.hid (@rch_same rel S hS m)
      have HMore := Lib.hid (@rch_more rel S hS m)
      have hlt := Sp.rch_lt (rel := rel) hS m
      have hlt1 := Sp.rch_lt (rel := rel) hS (m + 1)
      have hil := Sp.img_lt rel (Sp.rch rel S m)
      have hor := i64_or_nat (Sp.rch rel S m) (Sp.img rel (Sp.rch rel S m)) (by omega) (by omega)
      have HO : Hid (Sp.rch rel S m ||| Sp.img rel (Sp.rch rel S m) = Sp.rch rel S (m + 1)) := rfl
      rw [HO.out] at hor
      have hstep := c_nextStates g t.deeds.length t.deeds.length (Sp.flat t.deeds) (Sp.rch rel S m) wr hRw (by omega) hn6
      have HR : Hid (Sp.img (Sp.edge t.deeds.length (Sp.flat t.deeds)) (Sp.rch rel S m) = Sp.img rel (Sp.rch rel S m)) := by rw [← HRel.out]; rfl
      rw [HR.out] at hstep
      clear HR
      have hle : Sp.rch rel S m ≤ Sp.rch rel S (m + 1) := Nat.left_le_or
      obtain ⟨T, HT⟩ : ∃ T, Hid (Sp.rch rel S m = T) := ⟨_, rfl⟩
      obtain ⟨T1, HT1⟩ : ∃ T1, Hid (Sp.rch rel S (m + 1) = T1) := ⟨_, rfl⟩
      obtain ⟨I, HI⟩ : ∃ I, Hid (Sp.img rel T = I) := ⟨_, rfl⟩
      rw [HT.out, HI.out] at hstep hor
      rw [HT.out] at hlt hle hil HMore HSame
      rw [HT1.out] at hlt1 hle hor HMore HSame
      rw [HI.out] at hil
      rw [HT.out]
      go_wp2_with fail
      refine hstep.mono ?_; rintro e w9 ⟨rfl, hk9⟩
      replace hkp := hkp.trans hk9
      replace hRw := hRw.keep hk9
      clear hk9 hstep HO
      by_cases he : T1 = T
      · have HX := Lib.hid (HSame.out he hm)
        subst he
        go_wp2_with fail
        go_ret
        exact ⟨ret_int (by rw [HE.out, HN.out, HX.out]), hkp⟩
      · have hne : ¬ (T1 : Int) = (T : Int) := by omega
        have hneb : ((T1 : Int) == (T : Int)) = false := beq_eq_false_iff_ne.2 hne
        have hm1 := HMore.out he
        go_wp2_with fail
        exact ⟨⟨m + 1, hm1, by rw [HT1.out], hkp, hRw⟩, by simp [intOf]; omega⟩




















































































set_option maxHeartbeats 1000000 in
set_option maxRecDepth 100000 in
theorem c_sReached (v : Value) (t : Sp.Task) (w : World) (h : TaskV w v t) : Calls Tryz.prog 33 #[v] w (RetK (.int .i64 (Sp.reached t)) w) := by
  obtain ⟨A, n, c, A', n', c', rfl⟩ := h.form
  have hk0 := (Kept.refl w).alloc (.cells #[.int .i64 t.start, .slice A n c, .slice A' n' c'] 26)
  have B0 := Blk.new w 26 #[.int .i64 t.start, .slice A n c, .slice A' n' c']
  have hT := h.keep hk0
  go_enter Tryz.func33, Tryz.ntmps33
  go_wp2_with fail
  refine (c_sTaskValid _ t _ hT).mono ?_; rintro e w2 ⟨rfl, hk2⟩
  replace hk0 := hk0.trans hk2
  replace B0 := B0.kept hk2
  replace hT := hT.keep hk2
  clear hk2
  have c0 := B0.cell
  cases ht : Sp.taskOk t
  · have HE : Hid (Sp.reached t = -1) := by show _ = _; unfold Sp.reached; rw [ht]; simp
    clear ht
    go_wp2_with fail
    go_ret
    exact ⟨ret_int HE.out.symm, hk0⟩
  have HK := Lib.hid ht
  have HE : Hid (Sp.reached t = (Sp.reachedN t : Nat)) := by show _ = _; unfold Sp.reached; rw [if_pos ht]
  obtain ⟨hs0, hs1⟩ := Sp.taskOk_start ht
  obtain ⟨st, hst⟩ := Int.eq_ofNat_of_zero_le hs0
  have hS : 2 ^ t.start.toNat < 2 ^ 32 := start_set ht
  have HN : Hid (Sp.reachedN t = Sp.rch (Sp.rel t) (2 ^ t.start.toNat) 32) := rfl
  obtain ⟨S, HSd⟩ : ∃ S, Hid (2 ^ t.start.toNat = S) := ⟨2 ^ t.start.toNat, rfl⟩
  have hsh : ∀ T, binOp .shl T (.int .i64 1) (.int .i64 t.start) = pure (.int .i64 (S : Int)) := fun T => by
    rw [← HSd.out, hst, Int.toNat_natCast]
    have := bin_shl_one st (by omega) T
    rwa [p2_nat] at this
  rw [HSd.out] at hS HN
  clear hst
  obtain ⟨rel, HRel⟩ : ∃ rel, Hid (Sp.rel t = rel) := ⟨Sp.rel t, rfl⟩
  rw [HRel.out] at HN
  clear ht
  clear hT
  go_wp2_with fail
  clear c0
  go_loopw [3] (fun o wr => ∃ m : Nat, m ≤ 31 ∧ o = .int .i64 (Sp.rch rel S m : Nat) ∧ Kept w wr ∧ Blk wr w.heap.size 26 #[.int .i64 t.start, .slice A n c, .slice A' n' c']) (fun o _ => 4294967296 - (intOf o).toNat)
  case atStart => exact ⟨0, by omega, rfl, hk0, B0⟩
  case round =>
    obtain ⟨m, hm, rfl, hkp, hB⟩ := hrel
    have c0 := hB.cell
    have hT := h.keep hkp
    have HSame := Lib.hid (@rch_same rel S hS m)
    have HMore := Lib.hid (@rch_more rel S hS m)
    have hlt := Sp.rch_lt (rel := rel) hS m
    have hlt1 := Sp.rch_lt (rel := rel) hS (m + 1)
    have hil := Sp.img_lt rel (Sp.rch rel S m)
    have HO : Hid (Sp.rch rel S m ||| Sp.img rel (Sp.rch rel S m) = Sp.rch rel S (m + 1)) := rfl
    have HNx := Lib.hid (statesNext_nat (t := t) HK.out (s := Sp.rch rel S m) hlt)
    rw [HRel.out] at HNx
    have hle : Sp.rch rel S m ≤ Sp.rch rel S (m + 1) := Nat.left_le_or
    obtain ⟨T, HT⟩ : ∃ T, Hid (Sp.rch rel S m = T) := ⟨_, rfl⟩
    obtain ⟨T1, HT1⟩ : ∃ T1, Hid (Sp.rch rel S (m + 1) = T1) := ⟨_, rfl⟩
    obtain ⟨I, HI⟩ : ∃ I, Hid (Sp.img rel T = I) := ⟨_, rfl⟩
    rw [HT.out] at hlt hle hil HMore HSame HO HNx
    rw [HT1.out] at hlt1 hle HMore HSame HO
    rw [HI.out] at hil HO HNx
    rw [HT.out]
    have hor := c_l1Either (T : Int) (I : Int)
    rw [Int.toNat_natCast, Int.toNat_natCast, HO.out] at hor
    go_wp2_with fail
    refine (c_sStatesNext _ t (T : Int) _ hT).mono ?_; rintro e w9 ⟨rfl, hk9⟩
    rw [HNx.out]
    replace hkp := hkp.trans hk9
    replace hB := hB.kept hk9
    clear hk9 c0 hT
    go_wp2_with fail
    refine (hor _ (by omega) (by omega) (by omega) (by omega)).mono ?_; rintro e w10 ⟨rfl, rfl⟩
    clear hor HO
    by_cases he : T1 = T
    · have HX := Lib.hid (HSame.out he hm)
      subst he
      go_wp2_with fail
      go_ret
      exact ⟨ret_int (by rw [HE.out, HN.out, HX.out]), hkp⟩
    · have hne : ¬ (T1 : Int) = (T : Int) := by omega
      have hneb : ((T1 : Int) == (T : Int)) = false := beq_eq_false_iff_ne.2 hne
      have hm1 := HMore.out he
      go_wp2_with fail
      exact ⟨⟨m + 1, hm1, by rw [HT1.out], hkp, hB⟩, by simp [intOf]; omega⟩

end Go.Proofs.YtphdojebdclonaaGreatDoor
/- Walks: the draw of a task and a set of states (FnClosedOk). No condition. -/
namespace Go.Proofs.YtphdojebdclonaaGreatDoor
set_option linter.unusedSimpArgs false
set_option linter.unusedVariables false
open Go.RowKit

theorem own_ints {w : World} {X : Nat} {A : Option Addr} {n c : Nat} {l : List Int} (hn : n ≤ 64) (ho : w.ownsRow X 3 1 (.slice A n c) n (l.map (Value.int .i64))) (hi : ∀ x ∈ l, Sp.inI x) : Ints w A n l := by
  have hl : l.length = n := by have := ho.1; simpa using this
  refine ⟨hl, by unfold maxLen; omega, hi, fun h0 => ?_⟩
  obtain ⟨_, g, rfl, _, h3⟩ := own_row ho h0
  obtain ⟨h4, h5⟩ := h3
  exact ⟨g, 0, rfl, h5.1, fun k hk => by rw [Nat.zero_add]; exact h5.2.2 k hk⟩
/-- what the rows hold, wherever they are kept -/
theorem GRow.own2 {w : World} {X : Nat} {A : Option Addr} {n c : Nat} (h : GRow X w A n c) : ∃ l, ∀ w', IntsKept X w w' → Ints w' A n l := by
  obtain ⟨l, hn, ho, hi⟩ := h
  exact ⟨l, fun w' hk => own_ints hn (hk _ _ _ _ ho) hi⟩
theorem DRow.deeds2 {w : World} {X : Nat} {A : Option Addr} {n c : Nat} (h : DRow X w A n c) (hn : n ≤ 64) : ∃ ds, ∀ w', RowsKept X w w' → Deeds w' A n ds := by
  obtain ⟨xs, ho, hv⟩ := h
  by_cases h0 : 0 < n
  · obtain ⟨_, g, rfl, hg, hgl, _, _⟩ := own_some ho h0
    have hlt : ∀ w', RowsKept X w w' → g < w'.heap.size := fun w' hk => by
      obtain ⟨_, g', e', _, hgl', _, _⟩ := own_some (hk _ _ _ _ _ (.inr rfl) ho) h0
      simp only [Option.some.injEq, Addr.mk.injEq] at e'
      omega
    have hc : ∀ w', RowsKept X w w' → ∀ j u, xs[j]? = some u → w'.cell? ⟨g, j, none⟩ = some u := fun w' hk j u hu => by
      have ho' := hk _ _ _ _ _ (.inr rfl) ho
      rw [ho'.cellAt j (by have := ho'.1; have := (List.getElem?_eq_some_iff.1 hu).1; omega)]
      exact hu
    have hd : ∀ k, ∃ d : Sp.Deed, k < n → ∀ w', RowsKept X w w' → DeedCells w' g (0 + k * 4) d := fun k => by
      by_cases hk : k < n
      · obtain ⟨v0, v1, v2, v3, h0, h1, h2, h3, A, m, c, l, on, off, flip, rfl, rfl, rfl, rfl, hm, hr, hi, i1, i2, i3⟩ := hv k hk
        refine ⟨⟨l, on, off, flip⟩, fun _ w' hkw => ?_⟩
        rw [Nat.zero_add]
        exact ⟨A, m, c, hc w' hkw _ _ h0, own_ints hm (hkw.ints _ _ _ _ hr) hi, hc w' hkw _ _ h1, hc w' hkw _ _ h2, hc w' hkw _ _ h3, i1, i2, i3⟩
      · exact ⟨default, fun h => absurd h hk⟩
    refine ⟨(List.range n).map (fun k => (hd k).choose), fun w' hkw => ⟨by simp, by unfold maxLen; omega, fun _ => ⟨g, 0, rfl, hlt w' hkw, fun k hk => ?_⟩⟩⟩
    have := (hd k).choose_spec hk w' hkw
    simpa [hk] using this
  · exact ⟨[], fun w' _ => ⟨by simp; omega, by unfold maxLen; omega, fun h => absurd h h0⟩⟩
theorem TaskQ.task2 {X : Nat} {v : Value} {w : World} (h : TaskQ X v w) : ∃ t, t.deeds.length ≤ 8 ∧ ∀ w', RowsKept X w w' → TaskV w' v t := by
  obtain ⟨st, A, n, c, A', n', c', rfl, hi, hG, hD, hn⟩ := h
  obtain ⟨l, hI⟩ := hG.own2
  obtain ⟨ds, hDs⟩ := hD.deeds2 (by omega)
  exact ⟨⟨st, l, ds⟩, by rw [(hDs w (RowsKept.of_kept (Kept.refl w))).len]; exact hn, fun w' hk => ⟨A, n, c, A', n', c', rfl, hI w' hk.ints, hDs w' hk, hi⟩⟩

theorem reached_bd (t : Sp.Task) (h : Sp.taskOk t = true) : ∃ S : Nat, Sp.reached t = (S : Int) ∧ S < 4294967296 := by
  refine ⟨Sp.reachedN t, ?_, reachedN_lt h⟩
  unfold Sp.reached
  rw [if_pos h]


















































































































































































































































end Go.Proofs.YtphdojebdclonaaGreatDoor
