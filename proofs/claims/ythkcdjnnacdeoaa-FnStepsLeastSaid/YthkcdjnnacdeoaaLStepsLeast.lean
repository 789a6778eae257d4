/- The law FnStepsLeast, walked. No condition. -/
import Derived.Test.YthkcdjnnacdeoaaLReached
import Derived.Test.YthkcdjnnacdeoaaLOnlyTurns
import Derived.Test.YthkcdjnnacdeoaaA5
import Derived.Test.YthkcdjnnacdeoaaG11
namespace Go.Proofs.Ythkcdjnnacdeoaa
open Go.RowKit

/-- whether one of the first k deeds is a step nearer, or there is none to go -/
def Sp.nearer (t : Sp.Task) (j k : Nat) : Bool := decide (Sp.toGo t j ≤ 0) || Sp.ex k (Sp.hit t j)
theorem nearer_zero (t : Sp.Task) (j : Nat) : Sp.nearer t j 0 = decide (Sp.toGo t j ≤ 0) := by unfold Sp.nearer Sp.ex; simp
theorem nearer_end {t : Sp.Task} (hok : Sp.taskOk t = true) {j : Nat} (hj : j < 32) : Sp.nearer t j t.deeds.length = true := by
  unfold Sp.nearer
  by_cases h : Sp.toGo t j ≤ 0
  · simp [h]
  · obtain ⟨k, hk, h2⟩ := hit_some hok hj (by omega)
    rw [(Sp.ex_iff _ _).2 ⟨k, hk, h2⟩]; simp
theorem nearer_no {t : Sp.Task} {j k : Nat} (h : Sp.stepI (t.deeds.getD k default) j < 0) : Sp.nearer t j (k + 1) = Sp.nearer t j k := by
  unfold Sp.nearer
  show (_ || (Sp.ex k _ || Sp.hit t j k)) = _
  have : Sp.hit t j k = false := by unfold Sp.hit; rw [decide_eq_false (by omega)]; rfl
  rw [this, Bool.or_false]
theorem nearer_far {t : Sp.Task} {j k u : Nat} (h : Sp.stepI (t.deeds.getD k default) j = (u : Int)) (hu : Sp.toGo t u = -1) : Sp.nearer t j (k + 1) = Sp.nearer t j k := by
  unfold Sp.nearer
  show (_ || (Sp.ex k _ || Sp.hit t j k)) = _
  unfold Sp.hit
  rw [h, Int.toNat_natCast, hu]
  by_cases h2 : Sp.toGo t j = 0
  · rw [decide_eq_true (by omega : Sp.toGo t j ≤ 0)]; rfl
  · have : (((-1 : Int)) == Sp.toGo t j - 1) = false := beq_eq_false_iff_ne.2 (by omega)
    rw [this]; simp
theorem nearer_one {t : Sp.Task} {j k u : Nat} (h : Sp.stepI (t.deeds.getD k default) j = (u : Int)) : Sp.nearer t j (k + 1) = (Sp.nearer t j k || (Sp.toGo t u == Sp.toGo t j - 1)) := by
  unfold Sp.nearer
  show (_ || (Sp.ex k _ || Sp.hit t j k)) = _
  have : Sp.hit t j k = (Sp.toGo t u == Sp.toGo t j - 1) := by unfold Sp.hit; rw [h, Int.toNat_natCast, decide_eq_true (by omega)]; simp
  rw [this, Bool.or_assoc]
/-- behind a deed the number is the one before, less 1, or greater -/
theorem toGo_edge {t : Sp.Task} (hok : Sp.taskOk t = true) {j k u : Nat} (hj : j < 32) (hk : k < t.deeds.length) (h : Sp.stepI (t.deeds.getD k default) j = (u : Int)) (hu : 0 ≤ Sp.toGo t u) : 0 ≤ Sp.toGo t j ∧ Sp.toGo t j ≤ Sp.toGo t u + 1 := by
  have hb := stepI_bd hj (Sp.taskOk_deed hok hk)
  exact dist_edge (rel := Sp.relB t) (truth_bd _) (show u < 32 by omega) hj hu ((rel_iff t j u hj).2 ⟨k, hk, h⟩)
theorem toGo_leads {t : Sp.Task} {j : Nat} (hj : j < 32) : decide (0 ≤ Sp.toGo t j) = (Sp.leadsN t).testBit j := by
  rw [Bool.eq_iff_iff, decide_eq_true_eq]
  exact dist_iff (truth_bd _) hj
theorem toGo_zero {t : Sp.Task} {j : Nat} (hj : j < 32) : Sp.run t.goal j = decide (Sp.toGo t j = 0) := by
  rw [Bool.eq_iff_iff, decide_eq_true_eq]
  refine Iff.trans ?_ (dist_zero_iff (rel := Sp.relB t) (truth_bd _) hj).symm
  unfold Sp.truth
  rw [Sp.testBit_setOf]
  simp [hj]

set_option maxHeartbeats 1000000 in
set_option maxRecDepth 100000 in
theorem l_StepsLeastFn (A : Option Addr) (n c : Nat) (w : World) (h : BytesV w A n ∧ n ≤ c ∧ c ≤ maxLen) : Calls Try.prog 5 #[.slice A n c] w (RetK (.bool true) w) := by
  by_cases hn : 1048576 < n
  · have hn1 : (1048576 : Int) < (n : Int) := by omega
    go_enter Try.func5, Try.ntmps5
    go_wp2_with fail
    go_ret
    exact ⟨rfl, Kept.refl _⟩
  have hn1 : ¬ (1048576 : Int) < (n : Int) := by omega
  go_enter Try.func5, Try.ntmps5
  go_wp2_with fail
  refine (c_drawStepsLeast A n c w h).mono ?_; rintro e w2 ⟨tv, rfl, ⟨t, hTV⟩, hk2⟩
  obtain ⟨A1, m1, c1, A2, m2, c2, rfl⟩ := hTV.form
  have hk0 := hk2.alloc (.cells #[.int .i64 t.start, .slice A1 m1 c1, .slice A2 m2 c2] 26)
  have hT := hTV.keep ((Kept.refl w2).alloc (.cells #[.int .i64 t.start, .slice A1 m1 c1, .slice A2 m2 c2] 26))
  have B0 := Blk.new w2 26 #[.int .i64 t.start, .slice A1 m1 c1, .slice A2 m2 c2]
  clear hk2 hTV
  go_wp2_with fail
  refine (c_iStepsLeast _ t _ hT).mono ?_; rintro e w3 ⟨v, rfl, ⟨A3, c3, rfl, hO⟩, hk3⟩
  replace hk0 := hk0.trans hk3
  replace B0 := B0.kept hk3
  replace hT := hT.keep hk3
  clear hk3
  have c0 := B0.cell
  go_wp2_with fail
  refine (c_sStepsLeast _ t _ hT).mono ?_; rintro e w4 ⟨v, rfl, ⟨A4, c4, rfl, hO4⟩, hk4⟩
  replace hO := hO.keep hk4
  replace hk0 := hk0.trans hk4
  replace B0 := B0.kept hk4
  replace hT := hT.keep hk4
  clear hk4 c0
  go_wp2_with fail
  refine (c_lsameInts _ _ _ _ _ _ _ _ _ hO.1 hO4.1 rfl).mono ?_; rintro e w5 ⟨rfl, hk5⟩
  replace hO := hO.keep hk5
  replace hk0 := hk0.trans hk5
  replace B0 := B0.kept hk5
  replace hT := hT.keep hk5
  clear hk5 hO4
  cases ht : Sp.taskOk t
  · have HK := Lib.hid ht
    have HL : Hid ((Sp.stepsLeast t).length = 0) := by show _ = _; rw [stepsLeast_no ht]; rfl
    rw [HL.out]
    clear ht
    have c0 := B0.cell
    go_wp2_with fail
    refine (c_iTaskValid _ t _ hT).mono ?_; rintro e w6 ⟨rfl, hk6⟩
    rw [HK.out]
    go_wp2_with fail
    refine (c_alive _).mono ?_; rintro e w7 ⟨rfl, hk7⟩
    go_wp2_with fail
    go_ret
    exact ⟨rfl, (hk0.trans hk6).trans hk7⟩
  have HK := Lib.hid ht
  have HL : Hid ((Sp.stepsLeast t).length = 32) := by show _ = _; rw [stepsLeast_ok ht, distList_len]
  have HLd : Hid (Sp.leadsTo t = (Sp.leadsN t : Nat)) := by show _ = _; unfold Sp.leadsTo; rw [if_pos ht]
  obtain ⟨g, rfl, _, _, hO2⟩ := hO.2 (by rw [HL.out]; omega)
  rw [HL.out] at hO2 ⊢
  have hR := hO2.toGo ht
  have hll := leadsN_lt t
  clear ht hO hO2
  have HGo := Lib.hid (show ∀ s, Sp.dist (Sp.relB t) (Sp.truth t.goal) s = Sp.toGo t s from fun _ => rfl)
  replace hR := hR.congr (f' := Sp.toGo t) fun s _ => HGo.out s
  have c0 := B0.cell
  go_wp2_with fail
  refine (c_iLeadsTo _ t _ hT).mono ?_; rintro e w6 ⟨rfl, hk6⟩
  rw [HLd.out]
  replace hk0 := hk0.trans hk6
  replace B0 := B0.kept hk6
  replace hT := hT.keep hk6
  replace hR := hR.keep hk6
  clear hk6 c0
  have hnl := hT.deeds.le
  have HLn := Lib.hid hT.deeds.len
  obtain ⟨D, HD⟩ : ∃ D, Hid (Sp.leadsN t = D) := ⟨_, rfl⟩
  rw [HD.out] at hll ⊢
  go_wp2_with fail
  go_loopw [6] (fun i wr => ∃ j : Nat, j ≤ 32 ∧ i = .int .i64 j ∧ Kept w6 wr) (fun i _ => 32 - (intOf i).toNat)
  case atStart => exact ⟨0, by omega, rfl, Kept.refl _⟩
  case round =>
    obtain ⟨j, hj, rfl, hkp⟩ := hrel
    by_cases hlt : j < 32
    · have cj := (hR.keep hkp).2.2 j hlt
      obtain ⟨x, HX⟩ : ∃ x, Hid (Sp.toGo t j = x) := ⟨_, rfl⟩
      have hxb := toGo_bd t hlt
      have HNr0 := Lib.hid (nearer_zero t j)
      have HNrE := Lib.hid (nearer_end HK.out hlt)
      have HZ := Lib.hid (toGo_zero (t := t) hlt)
      have HLd2 := Lib.hid (toGo_leads (t := t) hlt)
      rw [HX.out] at cj hxb HNr0 HZ HLd2
      rw [HD.out] at HLd2
      rw [HLn.out] at HNrE
      go_wp2_with fail
      try rw [show decide ((j : Int) < 32) = true from decide_eq_true (by omega)]
      rw [← HNr0.out]
      clear cj
      go_loopw [8, 7] (fun i b wr => ∃ k : Nat, k ≤ m2 ∧ i = .int .i64 k ∧ b = .bool (Sp.nearer t j k) ∧ Kept w6 wr) (fun i _ _ => m2 - (intOf i).toNat)
      case atStart => exact ⟨0, Nat.zero_le _, rfl, rfl, hkp⟩
      case round =>
        obtain ⟨k, hk, rfl, rfl, hkp⟩ := hrel
        have c0 := (B0.kept hkp).cell
        by_cases hlt2 : k < m2
        · have hkl : k < t.deeds.length := by rw [HLn.out]; exact hlt2
          obtain ⟨b, off, rfl, hb, hc⟩ := (hT.keep hkp).deeds.at hlt2
          have HDo := Lib.hid (Sp.taskOk_deed HK.out hkl)
          have HN1 := Lib.hid (@nearer_no t j k)
          have HN2 := Lib.hid (fun u => @nearer_far t j k u)
          have HN3 := Lib.hid (fun u => @nearer_one t j k u)
          have HE := Lib.hid (fun u => @toGo_edge t HK.out j k u hlt hkl)
          have hbd := stepI_bd (d := t.deeds.getD k default) hlt HDo.out
          generalize t.deeds.getD k default = d at *
          obtain ⟨A5, n5, c5, hc0, hc1, hc2, hc3, hdv⟩ := hc.v
          have HDv := Lib.hid hdv
          clear hdv hc
          go_wp2_with fail
          refine (c_iDeedDo _ d j _ HDv.out HDo.out hlt).mono ?_; rintro e w7 ⟨rfl, hk7⟩
          replace hkp := hkp.trans hk7
          clear hk7 c0 hc0 hc1 hc2 hc3 HDv
          have hRp := hR.keep hkp
          have cj := hRp.2.2 j hlt
          rw [HX.out] at cj
          obtain ⟨b1, Hb1⟩ : ∃ b1, Hid (Sp.nearer t j k = b1) := ⟨_, rfl⟩
          obtain ⟨b2, Hb2⟩ : ∃ b2, Hid (Sp.nearer t j (k + 1) = b2) := ⟨_, rfl⟩
          rw [Hb1.out, Hb2.out] at HN1
          obtain ⟨y, HY⟩ : ∃ y, Hid (Sp.stepI d j = y) := ⟨_, rfl⟩
          rw [HY.out] at hbd HN1 ⊢
          rw [Hb1.out]
          by_cases hy : y < 0
          · have HE2 := Lib.hid (HN1.out hy)
            clear HN1 HN2 HN3 HE cj
            go_wp2_with fail
            exact ⟨⟨k + 1, by omega, by go_num, by rw [Hb2.out, HE2.out], hkp⟩, by simp [intOf]; omega⟩
          · obtain ⟨u, rfl⟩ := Int.eq_ofNat_of_zero_le (show 0 ≤ y by omega)
            have hu32 : u < 32 := by omega
            have cu := hRp.2.2 u hu32
            have hvb := toGo_bd t hu32
            have HN2' := Lib.hid (HN2.out u HY.out)
            have HN3' := Lib.hid (HN3.out u HY.out)
            have HE' := Lib.hid (HE.out u HY.out)
            obtain ⟨v, HV⟩ : ∃ v, Hid (Sp.toGo t u = v) := ⟨_, rfl⟩
            rw [HV.out] at cu hvb HN2' HN3' HE'
            rw [HX.out] at HN3' HE'
            rw [Hb1.out, Hb2.out] at HN2' HN3'
            clear HN1 HN2 HN3 HE
            by_cases hv : v < 0
            · have HE2 := Lib.hid (HN2'.out (by omega))
              clear HN2' HN3' HE'
              go_wp2_with fail
              exact ⟨⟨k + 1, by omega, by go_num, by rw [Hb2.out, HE2.out], hkp⟩, by simp [intOf]; omega⟩
            · obtain ⟨hx0, hx1⟩ := HE'.out (by omega)
              have hw : IntKind.i64.wrap (x - 1) = x - 1 := by rw [IntKind.wrap_i64]; omega
              have hvx : ¬ v < x - 1 := by omega
              have hv0 : 0 ≤ v := by omega
              have HE2 := Lib.hid HN3'.out
              clear HN2' HN3' HE'
              cases b1
              all_goals
                go_wp2_with fail
                go_quiet (fail)
                go_wp2_with fail
                go_quiet (fail)
                go_wp2_with fail
                exact ⟨⟨k + 1, by omega, by go_num, by rw [Hb2.out, HE2.out]; (first | rfl | simp), hkp.drewN _⟩, by simp [intOf]; omega⟩
        · obtain rfl : k = m2 := by omega
          rw [HNrE.out]
          have cj := (hR.keep hkp).2.2 j hlt
          rw [HX.out] at cj
          have hG := hT.goal.keep hkp
          have hB := B0.kept hkp
          have hgo := Sp.taskOk_goal HK.out
          have HGo2 := Lib.hid hgo
          have hbD := tmod_bit D j
          have HS : Hid (∀ w', Kept wr w' → (w'.cell? ⟨w2.heap.size, 1, none⟩ = some (.slice A1 m1 c1) ∧ w'.cell? ⟨g, j, none⟩ = some (.int .i64 x) ∧ Kept wr w')) := fun w' hk => ⟨(hB.kept hk).cell 1, by rw [(hR.keep (hkp.trans hk)).2.2 j hlt, HX.out], hk⟩
          have HLd3 := HLd2.out
          go_wp2_with fail
          rcases Int.lt_trichotomy x 0 with hx | hx | hx
          · have hrun : Hid (Sp.run t.goal j = false) := by show _ = _; rw [HZ.out, decide_eq_false (by omega)]
            rw [← HLd3, decide_eq_false (by omega : ¬ 0 ≤ x)] at hbD
            have hxp : ¬ 0 ≤ x := by omega
            have hxz : ¬ x = 0 := by omega
            have hxq : (x == 0) = false := beq_eq_false_iff_ne.2 hxz
            clear HLd3
            go_region_held3 (fun w' => w'.cell? ⟨w2.heap.size, 1, none⟩ = some (.slice A1 m1 c1) ∧ w'.cell? ⟨g, j, none⟩ = some (.int .i64 x) ∧ Kept wr w')
              (first | exact HS.out _ (Kept.refl _) | exact HS.out _ (Kept.refl _).drew | exact HS.out _ (Kept.trans (by assumption) hk8) | assumption)
              (first | (go_at_call 33; go_split_ands; refine (c_iCodeRun _ _ _ _ j _ (hG.keep (by assumption)) HGo2.out hlt).mono ?_; rintro e w8 ⟨rfl, hk8⟩; rw [hrun.out]))
            all_goals
              go_split_ands
              go_wp2_with fail
              exact ⟨⟨j + 1, by omega, by go_num, hkp.trans (by assumption)⟩, by simp [intOf]; omega⟩
          · have hrun : Hid (Sp.run t.goal j = true) := by show _ = _; rw [HZ.out, decide_eq_true hx]
            rw [← HLd3, decide_eq_true (by omega : 0 ≤ x)] at hbD
            clear HLd3
            subst hx
            go_region_held3 (fun w' => w'.cell? ⟨w2.heap.size, 1, none⟩ = some (.slice A1 m1 c1) ∧ w'.cell? ⟨g, j, none⟩ = some (.int .i64 0) ∧ Kept wr w')
              (first | exact HS.out _ (Kept.refl _) | exact HS.out _ (Kept.refl _).drew | exact HS.out _ (Kept.trans (by assumption) hk8) | assumption)
              (first | (go_at_call 33; go_split_ands; refine (c_iCodeRun _ _ _ _ j _ (hG.keep (by assumption)) HGo2.out hlt).mono ?_; rintro e w8 ⟨rfl, hk8⟩; rw [hrun.out]))
            all_goals
              go_split_ands
              go_wp2_with fail
              exact ⟨⟨j + 1, by omega, by go_num, hkp.trans (by assumption)⟩, by simp [intOf]; omega⟩
          · have hrun : Hid (Sp.run t.goal j = false) := by show _ = _; rw [HZ.out, decide_eq_false (by omega)]
            rw [← HLd3, decide_eq_true (by omega : 0 ≤ x)] at hbD
            have hxp : 0 ≤ x := by omega
            have hxz : ¬ x = 0 := by omega
            have hxq : (x == 0) = false := beq_eq_false_iff_ne.2 hxz
            clear HLd3
            go_region_held3 (fun w' => w'.cell? ⟨w2.heap.size, 1, none⟩ = some (.slice A1 m1 c1) ∧ w'.cell? ⟨g, j, none⟩ = some (.int .i64 x) ∧ Kept wr w')
              (first | exact HS.out _ (Kept.refl _) | exact HS.out _ (Kept.refl _).drew | exact HS.out _ (Kept.trans (by assumption) hk8) | assumption)
              (first | (go_at_call 33; go_split_ands; refine (c_iCodeRun _ _ _ _ j _ (hG.keep (by assumption)) HGo2.out hlt).mono ?_; rintro e w8 ⟨rfl, hk8⟩; rw [hrun.out]))
            all_goals
              go_split_ands
              go_wp2_with fail
              exact ⟨⟨j + 1, by omega, by go_num, hkp.trans (by assumption)⟩, by simp [intOf]; omega⟩
    · go_wp2_with fail
      go_ret
      exact ⟨rfl, hk0.trans hkp⟩

end Go.Proofs.Ythkcdjnnacdeoaa
