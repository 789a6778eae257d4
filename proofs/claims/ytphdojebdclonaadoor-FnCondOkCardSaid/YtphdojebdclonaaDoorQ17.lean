/- Joined texts. No condition. -/
import Derived.Test.YtphdojebdclonaaDoorQ7
import Derived.Test.YtphdojebdclonaaDoorQ13
import Derived.Test.YtphdojebdclonaaDoorQ4
/- Walks: StepsLeast. No condition. -/
namespace Go.Proofs.YtphdojebdclonaaDoor
set_option linter.unusedSimpArgs false
set_option linter.unusedVariables false
open Go.RowKit

def Sp.stepsLeast (t : Sp.Task) : List Int := if Sp.taskOk t = true then Sp.distList (Sp.relB t) (Sp.truth t.goal) else []
theorem stepsLeast_len (t : Sp.Task) : (Sp.stepsLeast t).length ≤ 1073741824 := by
  unfold Sp.stepsLeast
  split
  · rw [distList_len]; omega
  · simp

theorem c_iStepsLeast (v : Value) (t : Sp.Task) (w : World) (h : TaskV w v t) : Calls Tryd.prog 14 #[v] w (RetS (OutInts w (Sp.stepsLeast t)) w) := by
  obtain ⟨A, n, c, A', n', c', rfl⟩ := h.form
  have hk0 := (Kept.refl w).alloc (.cells #[.int .i64 t.start, .slice A n c, .slice A' n' c'] 26)
  have B0 := Blk.new w 26 #[.int .i64 t.start, .slice A n c, .slice A' n' c']
  have hT := h.keep hk0
  go_enter Tryd.func14, Tryd.ntmps14
  go_wp2_with fail
  refine (c_iTaskValid _ t _ hT).mono ?_; rintro e w2 ⟨rfl, hk2⟩
  replace hk0 := hk0.trans hk2
  replace B0 := B0.kept hk2
  replace hT := hT.keep hk2
  clear hk2
  have c0 := B0.cell
  cases ht : Sp.taskOk t
  · have HE : Hid (Sp.stepsLeast t = []) := by show _ = _; unfold Sp.stepsLeast; rw [ht]; simp
    clear ht
    go_wp2_with fail
    go_ret
    exact ⟨_, rfl, by rw [HE.out]; exact OutInts.none _ _ _ _, hk0⟩
  have HK := Lib.hid ht
  have HE : Hid (Sp.stepsLeast t = Sp.distList (Sp.relB t) (Sp.truth t.goal)) := by show _ = _; unfold Sp.stepsLeast; rw [ht]; simp
  have HC : Hid (Sp.codeTruth t.goal = (Sp.truth t.goal : Nat)) := by show _ = _; exact truth_codeTruth (Sp.taskOk_goal ht)
  have hS : Sp.truth t.goal < 2 ^ 32 := truth_bd t.goal
  have hn6 := Sp.taskOk_len ht
  clear ht
  have HS : Hid (∀ w', Kept w2 w' → (w'.cell? ⟨w.heap.size, 0, none⟩ = some (.int .i64 t.start) ∧ w'.cell? ⟨w.heap.size, 1, none⟩ = some (.slice A n c) ∧ w'.cell? ⟨w.heap.size, 2, none⟩ = some (.slice A' n' c') ∧ Kept w2 w')) :=
    fun w' hk => ⟨(B0.kept hk).cell 0, (B0.kept hk).cell 1, (B0.kept hk).cell 2, hk⟩
  clear c0
  go_wp2_with fail
  go_region_held3 (fun w' => w'.cell? ⟨w.heap.size, 0, none⟩ = some (.int .i64 t.start) ∧ w'.cell? ⟨w.heap.size, 1, none⟩ = some (.slice A n c) ∧ w'.cell? ⟨w.heap.size, 2, none⟩ = some (.slice A' n' c') ∧ Kept w2 w')
    (first | exact HS.out _ (Kept.refl _) | exact HS.out _ (Kept.refl _).drew | exact HS.out _ (Kept.trans (by assumption) hk6) | exact HS.out _ (Kept.trans (by assumption) hk7) | exact HS.out _ (Kept.trans (by assumption) hk8))
    (first | (go_at_call 54; go_split_ands; refine (c_behindAll _ t _ (hT.keep (by assumption)) HK.out).mono ?_; rintro e w6 ⟨v, rfl, ⟨g, rfl, hg, hR⟩, hk6⟩) | (go_at_call 44; go_split_ands; refine (c_iCodeTruth _ _ _ _ _ (hT.keep (by assumption)).goal).mono ?_; rintro e w8 ⟨rfl, hk8⟩; rw [HC.out]) | (go_at_call 53; go_split_ands; refine (c_stepsBack _ _ _ _ _ _ ((RowsF.of hR (fun k hk => Sp.taskOk_deed HK.out hk)).keep (by first | assumption | exact Kept.refl _)) hn6 hS).mono ?_; rintro e w7 ⟨v, rfl, ⟨g2, rfl, hg2, hO⟩, hk7⟩))
  have hsz := hk0.size
  all_goals
    have hsz6 := hk6.size
    have hsz8 := hk8.size
    (try simp at hsz6); (try simp at hsz8); (try simp at hg2)
    go_split_ands
    go_wp2_with fail
    go_ret
    exact ⟨_, rfl, by rw [HE.out]; exact OutInts.of hO (by omega), hk0.trans (by assumption)⟩

set_option maxHeartbeats 1000000 in
theorem c_sStepsLeast (v : Value) (t : Sp.Task) (w : World) (h : TaskV w v t) : Calls Tryd.prog 101 #[v] w (RetS (OutInts w (Sp.stepsLeast t)) w) := by
  obtain ⟨i0, hi0, hz0, hz1, hz2⟩ := info_parts info_int
  have HI := Lib.hid (And.intro hi0 (And.intro hz0 (And.intro hz1 hz2)))
  clear hi0 hz0 hz1 hz2
  obtain ⟨A, n, c, A', n', c', rfl⟩ := h.form
  have hk0 := (Kept.refl w).alloc (.cells #[.int .i64 t.start, .slice A n c, .slice A' n' c'] 26)
  have B0 := Blk.new w 26 #[.int .i64 t.start, .slice A n c, .slice A' n' c']
  have hT := h.keep hk0
  go_enter Tryd.func101, Tryd.ntmps101
  go_wp2_with fail
  obtain ⟨w1, HW1⟩ : ∃ w1, Hid (w1 = w.alloc (.cells #[.int .i64 t.start, .slice A n c, .slice A' n' c'] 26)) := ⟨w.alloc (.cells #[.int .i64 t.start, .slice A n c, .slice A' n' c'] 26), rfl⟩
  have hz1 : w1.heap.size = w.heap.size + 1 := by rw [HW1.out]; simp
  rw [← HW1.out, ← hz1]
  have HZ1 := Lib.hid hz1
  clear hz1
  rw [← HW1.out] at hk0 hT B0
  have hO0 := World.ownsRow_made (e := 3) (size := 1) w1 #[] 0 (Nat.le_refl _) (by unfold maxLen; omega) rfl
  have hk1 := (Kept.refl w1).alloc (.cells #[] 3)
  refine (c_sTaskValid _ t _ (hT.keep hk1)).mono ?_; rintro e w2 ⟨rfl, hk2⟩
  replace hO0 := own_keep hO0 hk2
  replace hk1 := hk1.trans hk2
  clear hk2
  have B1 := B0.kept hk1
  cases ht : Sp.taskOk t
  · have HE : Hid (Sp.stepsLeast t = []) := by show _ = _; unfold Sp.stepsLeast; rw [ht]; simp
    clear ht
    go_wp2_with fail
    go_ret
    exact ⟨_, rfl, by rw [HE.out]; exact OutInts.none _ _ _ _, hk0.trans hk1⟩
  have HK := Lib.hid ht
  have HE : Hid (Sp.stepsLeast t = Sp.distList (Sp.relB t) (Sp.truth t.goal)) := by show _ = _; unfold Sp.stepsLeast; rw [ht]; simp
  have HC : Hid (Sp.codeTruth t.goal = (Sp.truth t.goal : Nat)) := by show _ = _; exact truth_codeTruth (Sp.taskOk_goal ht)
  have hS : Sp.truth t.goal < 2 ^ 32 := truth_bd t.goal
  clear ht
  go_wp2_with fail
  go_loopw [4, 3] (fun i v wr => ∃ (k : Nat) (A2 : Option Addr) (c2 : Nat), k ≤ 32 ∧ i = .int .i64 k ∧ v = .slice A2 k c2 ∧ wr.ownsRow w1.heap.size 3 1 (.slice A2 k c2) k ((List.replicate k (-1)).map (Value.int .i64)) ∧ Kept w1 wr) (fun i _ _ => 32 - (intOf i).toNat)
  case atStart => exact ⟨0, _, _, Nat.zero_le _, rfl, rfl, hO0, hk1⟩
  case round =>
    obtain ⟨k, A2, c2, hk, rfl, rfl, hown, hkp⟩ := hrel
    by_cases hlt : k < 32
    · go_wp2_with (first | (at_builtin; refine wpList_append_own _ rfl (.tmp 19) (.tmp 20) 23 rfl (w1.heap.size) 3 i0 (.int .i64 0) 1 8 Tryd.underlying23 HI.out.1 HI.out.2.1 HI.out.2.2.1 HI.out.2.2.2 rfl (by decide) (.slice A2 k c2) k _ rfl (hown.alloc _) ⟨wr.heap.size, 0, none⟩ 1 1 [.int .i64 (-1)] rfl rfl (one_new _ _ _) (by simp [Value.oneCell']) (by unfold maxLen; omega) (by omega) (by have := hkp.size; (try simp at this ⊢); omega) ?_; intro v' w2 hown2 hg2 _))
      obtain ⟨A3, c3, rfl⟩ := own_form hown2
      exact ⟨⟨k + 1, A3, c3, by omega, by go_num, rfl, by rw [List.replicate_succ', List.map_append]; exact hown2, own_more hown hkp hg2⟩, by simp [intOf]; omega⟩
    · have B2 := B0.kept hkp
      have c0 := B2.cell
      obtain ⟨_, g, rfl, hg, _, hR⟩ := own_row (n := k) hown (by omega)
      have hk32 : 32 ≤ k := by omega
      obtain ⟨S, HSd⟩ : ∃ S, Hid (Sp.truth t.goal = S) := ⟨Sp.truth t.goal, rfl⟩
      rw [HSd.out] at hS HE HC
      have hR0 : IntRow wr g 32 (Sp.dlt (Sp.relB t) S 0) := by
        refine IntRow.congr ⟨hR.1, hR.2.1, fun s hs => hR.2.2 s (by omega)⟩ (fun s hs => ?_)
        rw [dlt_zero]
        simp [show s < k by omega]
      clear hown hR
      obtain ⟨rel, HRel⟩ : ∃ rel, Hid (Sp.relB t = rel) := ⟨Sp.relB t, rfl⟩
      rw [HRel.out] at HE hR0
      go_wp2_with fail
      rw [show decide ((k : Int) < 32) = false from decide_eq_false (by omega)]
      refine (c_sCodeTruth _ _ _ _ _ (hT.keep hkp).goal).mono ?_; rintro e w3 ⟨rfl, hk3⟩
      rw [HC.out]
      replace hkp := hkp.trans hk3
      replace hR0 := hR0.keep hk3
      clear hk3
      go_wp2_with fail
      clear hlt c0
      go_loopw [5, 6] (fun o y wr => ∃ m : Nat, m ≤ 32 ∧ o = .int .i64 (Sp.fr rel S m : Nat) ∧ y = .int .i64 (m : Int) ∧ Kept w1 wr ∧ IntRow wr g 32 (Sp.dlt rel S m)) (fun _ y _ => 40 - (intOf y).toNat)
      case atStart => exact ⟨0, by omega, rfl, rfl, hkp, hR0⟩
      case round =>
        obtain ⟨m, hm, rfl, rfl, hkp, hR⟩ := hrel
        by_cases hf0 : Sp.fr rel S m = 0
        · have HEnd := Lib.hid (dlt_end (rel := rel) hS hf0)
          rw [hf0]
          clear hf0
          go_wp2_with fail
          go_ret
          obtain rfl : k = 32 := by omega
          have hz1 := HZ1.out
          refine ⟨_, rfl, ?_, hk0.trans hkp⟩
          rw [HE.out]
          have := (hR.congr HEnd.out).own (distList_len rel S) (by unfold maxLen; omega) (distList_in _ _ hS) (fun s hs => (distList_at rel S s hs).symm)
          rw [← distList_len rel S] at this
          have := OutInts.of (c := c2) this (w := w) (by omega)
          rw [distList_len] at this
          exact this
        · have hm1 : m ≤ 31 := Sp.fr_bound hS m hf0
          have hf := Sp.fr_lt (rel := rel) hS m
          have HNew := Lib.hid (fun s hs => @dlt_new rel S hS m s hs)
          have HOld := Lib.hid (fun s hs => @dlt_old rel S hS m s hs)
          have HNeg := Lib.hid (fun s hs => @dlt_neg rel S hS m s hs)
          have HAll := Lib.hid (nextF_all (rel := rel) hS m)
          have HNx : Hid (Sp.statesBack t (Sp.fr rel S m : Nat) = (Sp.img rel (Sp.fr rel S m) : Nat)) := by
            show _ = _
            unfold Sp.statesBack
            rw [if_pos ⟨HK.out, by unfold Sp.setOk; simp; omega⟩, Int.toNat_natCast, HRel.out]
          have HNF := Lib.hid (show ∀ s, Sp.nextF rel S m s = ((Sp.img rel (Sp.fr rel S m)).testBit s && !(Sp.rch rel S m).testBit s) from fun s => rfl)
          have hI := Sp.img_lt rel (Sp.fr rel S m)
          generalize Sp.img rel (Sp.fr rel S m) = I at *
          generalize Sp.fr rel S m = f at *
          go_wp2_with fail
          rw [show decide (0 < f) = true from decide_eq_true (by omega)]
          go_loopw [7] (fun i wr => ∃ j : Nat, j ≤ 32 ∧ i = .int .i64 j ∧ Kept w1 wr ∧ IntRow wr g 32 (fun s => if s < j then Sp.dlt rel S (m + 1) s else Sp.dlt rel S m s)) (fun i _ => 32 - (intOf i).toNat)
          case atStart => exact ⟨0, by omega, rfl, hkp, hR.congr fun s _ => by rw [if_neg (by omega)]⟩
          case round =>
            obtain ⟨j, hj, rfl, hkp, hR⟩ := hrel
            by_cases hlt : j < 32
            · have HN2 := Lib.hid (HNew.out j hlt)
              have HO2 := Lib.hid (HOld.out j hlt)
              cases hev : f.testBit j
              · have HV := Lib.hid hev
                clear hev
                have hR2 := hR.congr (f' := fun s => if s < j + 1 then Sp.dlt rel S (m + 1) s else Sp.dlt rel S m s) fun s hs => by
                  by_cases e : s = j
                  · subst e; rw [if_neg (by omega), if_pos (by omega), HO2.out HV.out]
                  · by_cases e2 : s < j
                    · rw [if_pos e2, if_pos (by omega)]
                    · rw [if_neg e2, if_neg (by omega)]
                go_wp2_with (first | (go_at_call 100; refine (c_bitN f j _ hf hlt).mono ?_; rintro e w3 ⟨rfl, rfl⟩; rw [HV.out]))
                exact ⟨⟨j + 1, by omega, by go_num, hkp, hR2⟩, by simp [intOf]; omega⟩
              · have HV := Lib.hid hev
                clear hev
                have c0 := hR.2.2 j hlt
                have f0 := hR.2.1 j
                have hR2 := (hR.set hlt (m : Int)).congr (f' := fun s => if s < j + 1 then Sp.dlt rel S (m + 1) s else Sp.dlt rel S m s) fun s hs => by
                  by_cases e : s = j
                  · subst e; rw [if_pos rfl, if_pos (by omega), HN2.out HV.out]
                  · rw [if_neg e]
                    by_cases e2 : s < j
                    · rw [if_pos e2, if_pos (by omega)]
                    · rw [if_neg e2, if_neg (by omega)]
                go_wp2_with (first | (go_at_call 100; refine (c_bitN f j _ hf hlt).mono ?_; rintro e w3 ⟨rfl, rfl⟩; rw [HV.out]))
                exact ⟨⟨j + 1, by omega, by go_num, hkp.setCell (p := ⟨g, j, none⟩) hg _, hR2⟩, by simp [intOf]; omega⟩
            · have hR2 := hR.congr (f' := Sp.dlt rel S (m + 1)) fun s hs => by rw [if_pos (by omega)]
              have c0 := (B0.kept hkp).cell
              go_wp2_with fail
              refine (c_sStatesBack _ t _ _ (hT.keep hkp)).mono ?_; rintro e w4 ⟨rfl, hk4⟩
              rw [HNx.out]
              replace hkp := hkp.trans hk4
              replace hR2 := hR2.keep hk4
              clear hk4 c0 hR
              go_wp2_with fail
              rw [show decide ((j : Int) < 32) = false from decide_eq_false (by omega)]
              go_loop [9, 5] (fun i o => ∃ j : Nat, j ≤ 32 ∧ i = .int .i64 j ∧ o = .int .i64 (Sp.setOf j (Sp.nextF rel S m) : Nat)) (fun i _ => 32 - (intOf i).toNat)
              case atStart => exact ⟨0, by omega, rfl, rfl⟩
              case round =>
                obtain ⟨q, hq, rfl, rfl⟩ := hrel
                by_cases hlt3 : q < 32
                · have HNF2 := Lib.hid (HNF.out q)
                  have HNeg2 := Lib.hid (HNeg.out q hlt3)
                  have c9 := hR2.2.2 q hlt3
                  have hbd := setOf_bd q (Sp.nextF rel S m) (by omega)
                  have hp2 := p2_bd32 q (by omega)
                  have HST := Lib.hid (setOf_step q (Sp.nextF rel S m) hlt3)
                  have hsh := bin_shl_one q (by omega)
                  generalize Sp.dlt rel S (m + 1) q = y at *
                  cases hev : I.testBit q
                  · have HV := Lib.hid hev
                    have HX : Hid (Sp.setOf (q + 1) (Sp.nextF rel S m) = Sp.setOf q (Sp.nextF rel S m)) := HST.out.2.2 (by rw [HNF2.out, hev]; rfl)
                    clear hev
                    go_wp2_with (first | (go_at_call 100; refine (c_bitN I q _ (by omega) hlt3).mono ?_; rintro e w3 ⟨rfl, rfl⟩; rw [HV.out]))
                    exact ⟨⟨q + 1, by omega, by go_num, by rw [HX.out]⟩, by simp [intOf]; omega⟩
                  · have HV := Lib.hid hev
                    cases hrc : (Sp.rch rel S m).testBit q
                    · have hy : y < 0 := by have := HNeg2.out; rw [hrc] at this; simpa using this
                      have HX : Hid ((Sp.setOf q (Sp.nextF rel S m) : Int) + p2 q = (Sp.setOf (q + 1) (Sp.nextF rel S m) : Nat)) := (HST.out.1 (by rw [HNF2.out, hev, hrc]; rfl)).symm
                      clear hev hrc
                      go_wp2_with (first | (go_at_call 100; refine (c_bitN I q _ (by omega) hlt3).mono ?_; rintro e w3 ⟨rfl, rfl⟩; rw [HV.out]))
                      exact ⟨⟨q + 1, by omega, by go_num, by rw [← HX.out]⟩, by simp [intOf]; omega⟩
                    · have hy : 0 ≤ y := by have := HNeg2.out; rw [hrc] at this; simpa using this
                      have HX : Hid (Sp.setOf (q + 1) (Sp.nextF rel S m) = Sp.setOf q (Sp.nextF rel S m)) := HST.out.2.2 (by rw [HNF2.out, hev, hrc]; rfl)
                      clear hev hrc
                      go_wp2_with (first | (go_at_call 100; refine (c_bitN I q _ (by omega) hlt3).mono ?_; rintro e w3 ⟨rfl, rfl⟩; rw [HV.out]))
                      exact ⟨⟨q + 1, by omega, by go_num, by rw [HX.out]⟩, by simp [intOf]; omega⟩
                · have HF : Hid (Sp.setOf q (Sp.nextF rel S m) = Sp.fr rel S (m + 1)) := by show _ = _; rw [show q = 32 by omega]; exact HAll.out
                  go_wp2_with fail
                  exact ⟨⟨m + 1, by omega, by rw [HF.out], by go_num, hkp, hR2⟩, by simp [intOf]; omega⟩

end Go.Proofs.YtphdojebdclonaaDoor
