/- Joined texts. No condition. -/
import Derived.Test.YtphdojebdclonaaDoorQ29
import Derived.Test.YtphdojebdclonaaDoorQ21
import Derived.Test.YtphdojebdclonaaDoorQ8
/- Walks: the reference's PlanFor, its plan owned. No condition. -/
namespace Go.Proofs.YtphdojebdclonaaDoor
set_option linter.unusedSimpArgs false
set_option linter.unusedVariables false
open Go.RowKit

/-- a list that a call made, in a row of its own, and whether it is there -/
def OutOwnB (w : World) (l : List Int) (b : Bool) (v : Value) (w' : World) : Prop := ∃ A c, v = .tuple #[.slice A l.length c, .bool b] ∧ w'.ownsRow w.heap.size 3 1 (.slice A l.length c) l.length (l.map (Value.int .i64))
theorem outOwnB_none {w w1 wr : World} {A : Option Addr} {c : Nat} {b : Bool} (h : wr.ownsRow w1.heap.size 3 1 (.slice A 0 c) 0 []) (hw : w.heap.size ≤ w1.heap.size) : OutOwnB w [] b (.tuple #[.slice A 0 c, .bool b]) wr := ⟨A, c, rfl, ownsRow_mono h hw⟩
theorem outOwnB_some {w w1 wr : World} {A : Option Addr} {l : List Int} {n c : Nat} (b : Bool) (hn : n = l.length) (h : wr.ownsRow w1.heap.size 3 1 (.slice A n c) n (l.map (Value.int .i64))) (hw : w.heap.size ≤ w1.heap.size) : OutOwnB w l b (.tuple #[.slice A n c, .bool b]) wr := by
  subst hn
  exact ⟨A, c, rfl, ownsRow_mono h hw⟩
theorem planFor_form (t : Sp.Task) : (Sp.planFor t).length ≤ 31 ∧ ∀ x ∈ Sp.planFor t, Sp.inI x := by
  cases h : Sp.planThere t
  · rw [planFor_none h]
    exact ⟨by simp, fun x hx => (by cases hx)⟩
  · obtain ⟨hok, h1, h0, _⟩ := planFor_on h
    have hb := toGo_bd t (start_lt hok)
    refine ⟨by omega, ?_⟩
    obtain ⟨n, hn⟩ := Int.eq_ofNat_of_zero_le h0
    obtain ⟨s, l, h2, _⟩ := planAt_on hok n (by omega)
    obtain ⟨_, _, h5, _, _, h7⟩ := h2
    have e : Sp.planFor t = l := by
      unfold Sp.planFor
      rw [if_pos ⟨hok, h0⟩, hn, Int.toNat_natCast, h5]
    rw [e]
    exact h7


set_option maxHeartbeats 2000000 in
set_option maxRecDepth 100000 in
theorem c_sPlanForO (v : Value) (t : Sp.Task) (w : World) (h : TaskV w v t) : Calls Tryd.prog 93 #[v] w (RetS (OutOwnB w (Sp.planFor t) (Sp.planThere t)) w) := by
  obtain ⟨i0, hi0, hz0, hz1, hz2⟩ := info_parts info_int
  have HI := Lib.hid (And.intro hi0 (And.intro hz0 (And.intro hz1 hz2)))
  clear hi0 hz0 hz1 hz2
  obtain ⟨A, n, c, A', n', c', rfl⟩ := h.form
  have hk0 := (Kept.refl w).alloc (.cells #[.int .i64 t.start, .slice A n c, .slice A' n' c'] 26)
  have B0 := Blk.new w 26 #[.int .i64 t.start, .slice A n c, .slice A' n' c']
  have hT := h.keep hk0
  have hn := h.deeds.le
  have HLn := Lib.hid h.deeds.len
  go_enter Tryd.func93, Tryd.ntmps93
  go_wp2_with fail
  obtain ⟨w1, HW1⟩ : ∃ w1, Hid (w1 = w.alloc (.cells #[.int .i64 t.start, .slice A n c, .slice A' n' c'] 26)) := ⟨w.alloc (.cells #[.int .i64 t.start, .slice A n c, .slice A' n' c'] 26), rfl⟩
  have hz1 : w1.heap.size = w.heap.size + 1 := by rw [HW1.out]; simp
  rw [← HW1.out, ← hz1]
  rw [← HW1.out] at hk0 hT B0
  have hO0 := World.ownsRow_made (e := 3) (size := 1) w1 #[] 0 (Nat.le_refl _) (by unfold maxLen; omega) rfl
  have hk1 := (Kept.refl w1).alloc (.cells #[] 3)
  refine (c_sStepsLeast _ t _ (hT.keep hk1)).mono ?_; rintro e w2 ⟨v, rfl, ⟨A4, c4, rfl, hO⟩, hk2⟩
  replace hO0 := own_keep hO0 hk2
  replace hk1 := hk1.trans hk2
  clear hk2
  cases ht : Sp.taskOk t
  · have HE : Hid (Sp.planThere t = false) := by show _ = _; unfold Sp.planThere; rw [ht]; rfl
    have HN := Lib.hid (planFor_none HE.out)
    have h0 : (Sp.stepsLeast t).length = 0 := by unfold Sp.stepsLeast; rw [ht]; rfl
    rw [h0]
    have HZ1 := Lib.hid hz1
    clear ht h0 hO hz1
    go_wp2_with fail
    go_ret2
    exact ⟨_, rfl, by rw [HN.out, HE.out]; exact outOwnB_none hO0 (by have := HZ1.out; omega), hk0.trans hk1⟩
  have HK := Lib.hid ht
  have HL := Lib.hid (stepsLeast_yes ht)
  obtain ⟨hs0, hs1⟩ := Sp.taskOk_start ht
  obtain ⟨st, hst⟩ := Int.eq_ofNat_of_zero_le hs0
  have HST := Lib.hid hst
  clear ht hst
  rw [HL.out.1]
  obtain ⟨G, rfl, hG, hR⟩ := hO.row32 HL.out.1 HL.out.2
  simp only [World.size_alloc] at hG
  clear hO
  have hGne : G ≠ w1.heap.size := by omega
  have HZ1 := Lib.hid hz1
  clear hz1 hG
  rw [HST.out] at hs1 B0 hT
  clear hs0
  have hb0 : (0 : Int) ≤ (st : Int) := by omega
  have hb1 : (st : Int) < 32 := by omega
  have c0 := (B0.kept hk1).cell
  have c1 := hR.2.2 st (by omega)
  have hsb := toGo_bd t (s := st) (by omega)
  by_cases hneg : Sp.toGo t st < 0
  · have HE : Hid (Sp.planThere t = false) := by show _ = _; unfold Sp.planThere; rw [HK.out, HST.out, Int.toNat_natCast, decide_eq_false (by omega)]; rfl
    have HN := Lib.hid (planFor_none HE.out)
    go_wp2_with fail
    go_ret2
    exact ⟨_, rfl, by rw [HN.out, HE.out]; exact outOwnB_none hO0 (by have := HZ1.out; omega), hk0.trans hk1⟩
  have HY : Hid (Sp.planThere t = true) := by show _ = _; unfold Sp.planThere; rw [HK.out, HST.out, Int.toNat_natCast, decide_eq_true (by omega)]; rfl
  have HP0 := Lib.hid (onPlan_zero HK.out)
  have HD0 : Hid (Sp.toGo t t.start.toNat = Sp.toGo t st) := by show _ = _; rw [HST.out, Int.toNat_natCast]
  have HTS : Hid (t.start.toNat = st) := by show _ = _; rw [HST.out, Int.toNat_natCast]
  rw [HTS.out] at HP0
  go_wp2_with fail
  clear c0 c1
  go_loopw [6, 4] (fun s o wr => ∃ (i s0 : Nat) (l : List Int) (A2 : Option Addr) (c2 : Nat), s = .int .i64 s0 ∧ o = .slice A2 i c2 ∧ Hid (Sp.OnPlan t i s0 l) ∧ 0 ≤ Sp.toGo t s0 ∧ i ≤ 31 ∧ s0 < 32 ∧ wr.ownsRow w1.heap.size 3 1 (.slice A2 i c2) i (l.map (Value.int .i64)) ∧ Kept w1 wr ∧ Hid ((Value.slice A2 i c2).ownBlock ≠ some G) ∧ IntRow wr G 32 (Sp.toGo t)) (fun s _ _ => (Sp.toGo t (intOf s).toNat).toNat)
  case atStart => exact ⟨0, st, [], _, _, rfl, rfl, HP0, by omega, by omega, by omega, hO0, hk1, by show _ ≠ _; simp [Value.ownBlock]; omega, hR⟩
  case round =>
    obtain ⟨i, s, l, A2, c2, rfl, rfl, HP, hnn, hi, hs, hown, hkp, HNe, hR⟩ := hrel
    have c1 := hR.2.2 s hs
    have hsb2 := toGo_bd t hs
    have hs0' : (0 : Int) ≤ (s : Int) := by omega
    have hs1' : (s : Int) < 32 := by omega
    by_cases hpos : 0 < Sp.toGo t s
    · have hGl := hR.1
      have HM : Hid ((intOf (Value.int .i64 (s : Int))).toNat = s) := by show _ = _; simp [intOf]
      obtain ⟨dd, HDs⟩ : ∃ dd, Hid (Sp.toGo t s = dd) := ⟨_, rfl⟩
      have HSome := Lib.hid (hit_some HK.out hs hpos)
      rw [HDs.out] at c1 hpos hsb2
      go_wp2_with fail
      go_loopw [7, 4, 6] (fun q o s' wi => ∃ k : Nat, k ≤ n' ∧ q = .int .i64 k ∧ o = .slice A2 i c2 ∧ s' = .int .i64 s ∧ Hid (∀ j, j < k → Sp.hit t s j = false) ∧ wi.ownsRow w1.heap.size 3 1 (.slice A2 i c2) i (l.map (Value.int .i64)) ∧ Kept w1 wi ∧ IntRow wi G 32 (Sp.toGo t)) (fun q _ _ _ => n' - (intOf q).toNat)
      case atStart => exact ⟨0, Nat.zero_le _, rfl, rfl, rfl, fun j hj => absurd hj (Nat.not_lt_zero j), hown, hkp, hR⟩
      case round =>
        obtain ⟨k, hk, rfl, rfl, rfl, HNo, hown, hkp, hR⟩ := hrel
        by_cases hlt : k < n'
        · have hkl : k < t.deeds.length := by rw [HLn.out]; exact hlt
          obtain ⟨b, off, rfl, hb, hc⟩ := (h.keep (hk0.trans hkp)).deeds.at hlt
          have c0 := (B0.kept hkp).cell
          have hdo := Lib.hid (Sp.taskOk_deed HK.out hkl)
          have HOff := Lib.hid (@hit_off t s k)
          have HOn := Lib.hid (fun u => @hit_on t s k u)
          have HStep := Lib.hid (fun u l hh hn => @onPlan_step t i s k u l HK.out (hh) (by rw [HDs.out]; exact hpos) hkl hn)
          have hk6 : t.deeds.length ≤ 6 := Sp.taskOk_len HK.out
          generalize t.deeds.getD k default = d at *
          obtain ⟨A3, n3, c3, hc0, hc1, hc2, hc3, hdv⟩ := hc.v
          have HDv := Lib.hid hdv
          clear hdv
          have hbd := stepI_bd (d := d) hs hdo.out
          go_wp2_with fail
          refine (c_l6Do _ d _ _ HDv.out hdo.out (by omega) (by omega)).mono ?_; rintro e w4 ⟨rfl, hk4⟩
          rw [Int.toNat_natCast]
          replace hkp := hkp.trans hk4
          replace hR := hR.keep hk4
          replace hown := own_keep hown hk4
          clear c0 hc0 hc1 hc2 hc3 hk4 hb HDv
          obtain ⟨x, HX⟩ : ∃ x, Hid (Sp.stepI d s = x) := ⟨_, rfl⟩
          rw [HX.out] at hbd ⊢
          have hkd := hkp.drew
          have hRd := hR.keep (Kept.refl w4).drew
          have hownd := own_keep hown (Kept.refl w4).drew
          by_cases hx : 0 ≤ x
          · obtain ⟨u, rfl⟩ := Int.eq_ofNat_of_zero_le hx
            have hu1 : (u : Int) < 32 := by omega
            have c1d := hRd.2.2 u (by omega)
            have c2d := hRd.2.2 s hs
            have hub := toGo_bd t (s := u) (by omega)
            rw [HDs.out] at c2d
            have hsub : IntKind.i64.wrap (dd - 1) = dd - 1 := by rw [IntKind.wrap_i64]; omega
            have HOn2 := Lib.hid (HOn.out u HX.out)
            rw [HDs.out] at HOn2
            obtain ⟨du, HDu⟩ : ∃ du, Hid (Sp.toGo t u = du) := ⟨_, rfl⟩
            rw [HDu.out] at c1d hub HOn2
            by_cases he : du = dd - 1
            · have heq : (du == dd - 1) = true := by rw [he]; simp
              have HHit : Hid (Sp.hit t s k = true) := by show _ = _; rw [HOn2.out, heq]
              have HP2 := Lib.hid (HStep.out u l HP.out HX.out HHit.out HNo.out)
              have hi2 : i + 1 ≤ 31 := HP2.out.2.2.2.2.1
              have HDE : Hid (du = dd - 1) := he
              clear he
              go_wp2_with fail
              refine wp_region_held_drew (S := fun w' => w'.cell? ⟨G, u, none⟩ = some (.int .i64 du) ∧ w'.cell? ⟨G, s, none⟩ = some (.int .i64 dd)) (by kernel_rfl) ⟨c1d, c2d⟩ (fun hHeld => ?_)
              (refine take_val (i := 0) (v := .int .i64 u) rfl rfl (by kernel_rfl) (by kernel_rfl) (by kernel_rfl) (fun _ _ _ h => h) rfl (by intro wq hq; (try go_split_ands); go_simp; try with_reducible rfl) (hHeld) ?_; try simp only [List.setIfInBounds_toArray, List.set_cons_zero, List.set_cons_succ])
              (refine take_val (i := 1) (v := .bool true) rfl rfl (by kernel_rfl) (by kernel_rfl) (by kernel_rfl) (fun _ _ _ h => h) rfl (by intro wq hq; (try go_split_ands); go_simp; try with_reducible rfl) (hHeld) ?_; try simp only [List.setIfInBounds_toArray, List.set_cons_zero, List.set_cons_succ])
              (refine take_val (i := 2) (v := .bool true) rfl rfl (by kernel_rfl) (by kernel_rfl) (by kernel_rfl) (fun _ _ _ h => h) rfl (by intro wq hq; (try go_split_ands); go_simp; try with_reducible rfl) (hHeld) ?_; try simp only [List.setIfInBounds_toArray, List.set_cons_zero, List.set_cons_succ])
              (refine take_val (i := 3) (v := .slice (some ⟨G, 0, none⟩) 32 c4) rfl rfl (by kernel_rfl) (by kernel_rfl) (by kernel_rfl) (fun _ _ _ h => h) rfl (by intro wq hq; (try go_split_ands); go_simp; try with_reducible rfl) (hHeld) ?_; try simp only [List.setIfInBounds_toArray, List.set_cons_zero, List.set_cons_succ])
              (refine take_val (i := 4) (v := .int .i64 u) rfl rfl (by kernel_rfl) (by kernel_rfl) (by kernel_rfl) (fun _ _ _ h => h) rfl (by intro wq hq; (try go_split_ands); go_simp; try with_reducible rfl) (hHeld) ?_; try simp only [List.setIfInBounds_toArray, List.set_cons_zero, List.set_cons_succ])
              (refine take_val (i := 5) (v := .pointer (some ⟨G, u, none⟩)) rfl rfl (by kernel_rfl) (by kernel_rfl) (by kernel_rfl) (fun _ _ _ h => h) rfl (by intro wq hq; (try go_split_ands); go_simp; try with_reducible rfl) (hHeld) ?_; try simp only [List.setIfInBounds_toArray, List.set_cons_zero, List.set_cons_succ])
              (refine take_val (i := 6) (v := .int .i64 du) rfl rfl (by kernel_rfl) (by kernel_rfl) (by kernel_rfl) (fun _ _ _ h => h) rfl (by intro wq hq; (try go_split_ands); go_simp; try with_reducible rfl) (hHeld) ?_; try simp only [List.setIfInBounds_toArray, List.set_cons_zero, List.set_cons_succ])
              (refine take_val (i := 7) (v := .slice (some ⟨G, 0, none⟩) 32 c4) rfl rfl (by kernel_rfl) (by kernel_rfl) (by kernel_rfl) (fun _ _ _ h => h) rfl (by intro wq hq; (try go_split_ands); go_simp; try with_reducible rfl) (hHeld) ?_; try simp only [List.setIfInBounds_toArray, List.set_cons_zero, List.set_cons_succ])
              (refine take_val (i := 8) (v := .int .i64 s) rfl rfl (by kernel_rfl) (by kernel_rfl) (by kernel_rfl) (fun _ _ _ h => h) rfl (by intro wq hq; (try go_split_ands); go_simp; try with_reducible rfl) (hHeld) ?_; try simp only [List.setIfInBounds_toArray, List.set_cons_zero, List.set_cons_succ])
              (refine take_val (i := 9) (v := .pointer (some ⟨G, s, none⟩)) rfl rfl (by kernel_rfl) (by kernel_rfl) (by kernel_rfl) (fun _ _ _ h => h) rfl (by intro wq hq; (try go_split_ands); go_simp; try with_reducible rfl) (hHeld) ?_; try simp only [List.setIfInBounds_toArray, List.set_cons_zero, List.set_cons_succ])
              (refine take_val (i := 10) (v := .int .i64 dd) rfl rfl (by kernel_rfl) (by kernel_rfl) (by kernel_rfl) (fun _ _ _ h => h) rfl (by intro wq hq; (try go_split_ands); go_simp; try with_reducible rfl) (hHeld) ?_; try simp only [List.setIfInBounds_toArray, List.set_cons_zero, List.set_cons_succ])
              (refine take_val (i := 11) (v := .int .i64 (dd - 1)) rfl rfl (by kernel_rfl) (by kernel_rfl) (by kernel_rfl) (fun _ _ _ h => h) rfl (by intro wq hq; (try go_split_ands); go_simp; try with_reducible rfl) (hHeld) ?_; try simp only [List.setIfInBounds_toArray, List.set_cons_zero, List.set_cons_succ])
              (refine take_val (i := 12) (v := .bool true) rfl rfl (by kernel_rfl) (by kernel_rfl) (by kernel_rfl) (fun _ _ _ h => h) rfl (by intro wq hq; (try go_split_ands); go_simp; try with_reducible rfl) (hHeld) ?_; try simp only [List.setIfInBounds_toArray, List.set_cons_zero, List.set_cons_succ])
              (refine take_val (i := 13) (v := .bool true) rfl rfl (by kernel_rfl) (by kernel_rfl) (by kernel_rfl) (fun _ _ _ h => h) rfl (by intro wq hq; (try go_split_ands); go_simp; try with_reducible rfl) (hHeld) ?_; try simp only [List.setIfInBounds_toArray, List.set_cons_zero, List.set_cons_succ])
              refine wpAnyH_done (by kernel_rfl) ?_ _
              clear hown hkp hR c1d c2d hHeld
              have hown := hownd
              have hkp := hkd
              generalize w4.drew = wr at *
              go_wp2_with (first | (at_builtin; refine wpList_append_own_at _ rfl (.tmp 59) (.tmp 61) 23 rfl (w1.heap.size) 3 i0 (.int .i64 0) 1 8 Tryd.underlying23 HI.out.1 HI.out.2.1 HI.out.2.2.1 HI.out.2.2.2 rfl (by decide) (.slice A2 i c2) i _ rfl (hown.alloc _) ⟨wr.heap.size, 0, none⟩ 1 1 [.int .i64 ((k : Int))] rfl rfl (one_new _ _ _) (by simp [Value.oneCell']) (by unfold maxLen; omega) (by omega) (by have := hkp.size; (try simp at this ⊢); omega) ?_; intro v' w2 hown2 hg2 _ hat))
              obtain ⟨A3, c3, rfl⟩ := own_form hown2
              exact ⟨⟨i + 1, u, l ++ [(k : Int)], A3, c3, by trivial, by trivial, HP2, by rw [HDu.out]; have := HDE.out; omega, hi2, by omega, by rw [List.map_append]; exact hown2, own_more hown hkp hg2, row_off HNe.out hat hRd.1, hRd.grown hg2 HNe.out⟩, by
                have e1 := HM.out
                have e2 := HDE.out
                simp only [intOf, Int.toNat_natCast] at e1 ⊢
                rw [HDu.out, HDs.out]
                omega⟩
            · have heq : (du == dd - 1) = false := beq_eq_false_iff_ne.2 he
              have HHit : Hid (Sp.hit t s k = false) := by show _ = _; rw [HOn2.out, heq]
              clear he
              go_wp2_with fail
              refine wp_region_held_drew (S := fun w' => w'.cell? ⟨G, u, none⟩ = some (.int .i64 du) ∧ w'.cell? ⟨G, s, none⟩ = some (.int .i64 dd)) (by kernel_rfl) ⟨c1d, c2d⟩ (fun hHeld => ?_)
              (refine take_val (i := 0) (v := .int .i64 u) rfl rfl (by kernel_rfl) (by kernel_rfl) (by kernel_rfl) (fun _ _ _ h => h) rfl (by intro wq hq; (try go_split_ands); go_simp; try with_reducible rfl) (hHeld) ?_; try simp only [List.setIfInBounds_toArray, List.set_cons_zero, List.set_cons_succ])
              (refine take_val (i := 1) (v := .bool true) rfl rfl (by kernel_rfl) (by kernel_rfl) (by kernel_rfl) (fun _ _ _ h => h) rfl (by intro wq hq; (try go_split_ands); go_simp; try with_reducible rfl) (hHeld) ?_; try simp only [List.setIfInBounds_toArray, List.set_cons_zero, List.set_cons_succ])
              (refine take_val (i := 2) (v := .bool true) rfl rfl (by kernel_rfl) (by kernel_rfl) (by kernel_rfl) (fun _ _ _ h => h) rfl (by intro wq hq; (try go_split_ands); go_simp; try with_reducible rfl) (hHeld) ?_; try simp only [List.setIfInBounds_toArray, List.set_cons_zero, List.set_cons_succ])
              (refine take_val (i := 3) (v := .slice (some ⟨G, 0, none⟩) 32 c4) rfl rfl (by kernel_rfl) (by kernel_rfl) (by kernel_rfl) (fun _ _ _ h => h) rfl (by intro wq hq; (try go_split_ands); go_simp; try with_reducible rfl) (hHeld) ?_; try simp only [List.setIfInBounds_toArray, List.set_cons_zero, List.set_cons_succ])
              (refine take_val (i := 4) (v := .int .i64 u) rfl rfl (by kernel_rfl) (by kernel_rfl) (by kernel_rfl) (fun _ _ _ h => h) rfl (by intro wq hq; (try go_split_ands); go_simp; try with_reducible rfl) (hHeld) ?_; try simp only [List.setIfInBounds_toArray, List.set_cons_zero, List.set_cons_succ])
              (refine take_val (i := 5) (v := .pointer (some ⟨G, u, none⟩)) rfl rfl (by kernel_rfl) (by kernel_rfl) (by kernel_rfl) (fun _ _ _ h => h) rfl (by intro wq hq; (try go_split_ands); go_simp; try with_reducible rfl) (hHeld) ?_; try simp only [List.setIfInBounds_toArray, List.set_cons_zero, List.set_cons_succ])
              (refine take_val (i := 6) (v := .int .i64 du) rfl rfl (by kernel_rfl) (by kernel_rfl) (by kernel_rfl) (fun _ _ _ h => h) rfl (by intro wq hq; (try go_split_ands); go_simp; try with_reducible rfl) (hHeld) ?_; try simp only [List.setIfInBounds_toArray, List.set_cons_zero, List.set_cons_succ])
              (refine take_val (i := 7) (v := .slice (some ⟨G, 0, none⟩) 32 c4) rfl rfl (by kernel_rfl) (by kernel_rfl) (by kernel_rfl) (fun _ _ _ h => h) rfl (by intro wq hq; (try go_split_ands); go_simp; try with_reducible rfl) (hHeld) ?_; try simp only [List.setIfInBounds_toArray, List.set_cons_zero, List.set_cons_succ])
              (refine take_val (i := 8) (v := .int .i64 s) rfl rfl (by kernel_rfl) (by kernel_rfl) (by kernel_rfl) (fun _ _ _ h => h) rfl (by intro wq hq; (try go_split_ands); go_simp; try with_reducible rfl) (hHeld) ?_; try simp only [List.setIfInBounds_toArray, List.set_cons_zero, List.set_cons_succ])
              (refine take_val (i := 9) (v := .pointer (some ⟨G, s, none⟩)) rfl rfl (by kernel_rfl) (by kernel_rfl) (by kernel_rfl) (fun _ _ _ h => h) rfl (by intro wq hq; (try go_split_ands); go_simp; try with_reducible rfl) (hHeld) ?_; try simp only [List.setIfInBounds_toArray, List.set_cons_zero, List.set_cons_succ])
              (refine take_val (i := 10) (v := .int .i64 dd) rfl rfl (by kernel_rfl) (by kernel_rfl) (by kernel_rfl) (fun _ _ _ h => h) rfl (by intro wq hq; (try go_split_ands); go_simp; try with_reducible rfl) (hHeld) ?_; try simp only [List.setIfInBounds_toArray, List.set_cons_zero, List.set_cons_succ])
              (refine take_val (i := 11) (v := .int .i64 (dd - 1)) rfl rfl (by kernel_rfl) (by kernel_rfl) (by kernel_rfl) (fun _ _ _ h => h) rfl (by intro wq hq; (try go_split_ands); go_simp; try with_reducible rfl) (hHeld) ?_; try simp only [List.setIfInBounds_toArray, List.set_cons_zero, List.set_cons_succ])
              (refine take_val (i := 12) (v := .bool false) rfl rfl (by kernel_rfl) (by kernel_rfl) (by kernel_rfl) (fun _ _ _ h => h) rfl (by intro wq hq; (try go_split_ands); go_simp; try with_reducible rfl) (hHeld) ?_; try simp only [List.setIfInBounds_toArray, List.set_cons_zero, List.set_cons_succ])
              (refine take_val (i := 13) (v := .bool false) rfl rfl (by kernel_rfl) (by kernel_rfl) (by kernel_rfl) (fun _ _ _ h => h) rfl (by intro wq hq; (try go_split_ands); go_simp; try with_reducible rfl) (hHeld) ?_; try simp only [List.setIfInBounds_toArray, List.set_cons_zero, List.set_cons_succ])
              refine wpAnyH_done (by kernel_rfl) ?_ _
              clear hown hkp hR c1d c2d hHeld
              go_wp2_with fail
              exact ⟨⟨k + 1, by omega, by go_num, rfl, rfl, fun j hj => by
                by_cases e : j = k
                · subst e; exact HHit.out
                · exact HNo.out j (by omega), hownd, hkd, hRd⟩, by simp [intOf]; omega⟩
          · have HHit : Hid (Sp.hit t s k = false) := HOff.out (by rw [HX.out]; omega)
            have hdx : decide (0 ≤ x) = false := decide_eq_false hx
            go_wp2_with fail
            refine wp_region_held_drew (S := fun _ => True) (by kernel_rfl) trivial (fun hHeld => ?_)
            (refine take_val (i := 0) (v := .int .i64 x) rfl rfl (by kernel_rfl) (by kernel_rfl) (by kernel_rfl) (fun _ _ _ h => h) rfl (by intro wq hq; (try go_split_ands); go_simp; try with_reducible rfl) (hHeld) ?_; try simp only [List.setIfInBounds_toArray, List.set_cons_zero, List.set_cons_succ])
            (refine take_val (i := 1) (v := .bool false) rfl rfl (by kernel_rfl) (by kernel_rfl) (by kernel_rfl) (fun _ _ _ h => h) rfl (by intro wq hq; (try go_split_ands); go_simp; try with_reducible rfl) (hHeld) ?_; try simp only [List.setIfInBounds_toArray, List.set_cons_zero, List.set_cons_succ])
            (refine take_val (i := 2) (v := .bool false) rfl rfl (by kernel_rfl) (by kernel_rfl) (by kernel_rfl) (fun _ _ _ h => h) rfl (by intro wq hq; (try go_split_ands); go_simp; try with_reducible rfl) (hHeld) ?_; try simp only [List.setIfInBounds_toArray, List.set_cons_zero, List.set_cons_succ])
            (refine take_skip (i := 3) rfl rfl (by kernel_rfl) (by kernel_rfl) (by kernel_rfl) (fun _ _ _ h => h) rfl (hHeld) ?_; try simp only [List.setIfInBounds_toArray, List.set_cons_zero, List.set_cons_succ])
            (refine take_skip (i := 4) rfl rfl (by kernel_rfl) (by kernel_rfl) (by kernel_rfl) (fun _ _ _ h => h) rfl (hHeld) ?_; try simp only [List.setIfInBounds_toArray, List.set_cons_zero, List.set_cons_succ])
            (refine take_skip (i := 5) rfl rfl (by kernel_rfl) (by kernel_rfl) (by kernel_rfl) (fun _ _ _ h => h) rfl (hHeld) ?_; try simp only [List.setIfInBounds_toArray, List.set_cons_zero, List.set_cons_succ])
            (refine take_skip (i := 6) rfl rfl (by kernel_rfl) (by kernel_rfl) (by kernel_rfl) (fun _ _ _ h => h) rfl (hHeld) ?_; try simp only [List.setIfInBounds_toArray, List.set_cons_zero, List.set_cons_succ])
            (refine take_skip (i := 7) rfl rfl (by kernel_rfl) (by kernel_rfl) (by kernel_rfl) (fun _ _ _ h => h) rfl (hHeld) ?_; try simp only [List.setIfInBounds_toArray, List.set_cons_zero, List.set_cons_succ])
            (refine take_skip (i := 8) rfl rfl (by kernel_rfl) (by kernel_rfl) (by kernel_rfl) (fun _ _ _ h => h) rfl (hHeld) ?_; try simp only [List.setIfInBounds_toArray, List.set_cons_zero, List.set_cons_succ])
            (refine take_skip (i := 9) rfl rfl (by kernel_rfl) (by kernel_rfl) (by kernel_rfl) (fun _ _ _ h => h) rfl (hHeld) ?_; try simp only [List.setIfInBounds_toArray, List.set_cons_zero, List.set_cons_succ])
            (refine take_skip (i := 10) rfl rfl (by kernel_rfl) (by kernel_rfl) (by kernel_rfl) (fun _ _ _ h => h) rfl (hHeld) ?_; try simp only [List.setIfInBounds_toArray, List.set_cons_zero, List.set_cons_succ])
            (refine take_skip (i := 11) rfl rfl (by kernel_rfl) (by kernel_rfl) (by kernel_rfl) (fun _ _ _ h => h) rfl (hHeld) ?_; try simp only [List.setIfInBounds_toArray, List.set_cons_zero, List.set_cons_succ])
            (refine take_skip (i := 12) rfl rfl (by kernel_rfl) (by kernel_rfl) (by kernel_rfl) (fun _ _ _ h => h) rfl (hHeld) ?_; try simp only [List.setIfInBounds_toArray, List.set_cons_zero, List.set_cons_succ])
            (refine take_val (i := 13) (v := .bool false) rfl rfl (by kernel_rfl) (by kernel_rfl) (by kernel_rfl) (fun _ _ _ h => h) rfl (by intro wq hq; (try go_split_ands); go_simp; try with_reducible rfl) (hHeld) ?_; try simp only [List.setIfInBounds_toArray, List.set_cons_zero, List.set_cons_succ])
            refine wpAnyH_done (by kernel_rfl) ?_ _
            clear hown hkp hR hHeld
            go_wp2_with fail
            exact ⟨⟨k + 1, by omega, by go_num, rfl, rfl, fun j hj => by
              by_cases e : j = k
              · subst e; exact HHit.out
              · exact HNo.out j (by omega), hownd, hkd, hRd⟩, by simp [intOf]; omega⟩
        · exfalso
          obtain ⟨j, hj, hh⟩ := HSome.out
          rw [HNo.out j (by rw [HLn.out] at hj; omega)] at hh
          cases hh
    · have HE := Lib.hid (planFor_end HK.out (by rw [HD0.out]; omega) HP.out hpos (by have := HP.out.2.2.2.1; rw [HD0.out] at this ⊢; omega))
      have HLen := Lib.hid HP.out.2.1
      have HInn := Lib.hid HP.out.2.2.2.2.2
      have HO := Lib.hid (outOwnB_some (w := w) (w1 := w1) true HLen.out.symm hown (by have := HZ1.out; omega))
      go_wp2_with fail
      go_ret2
      exact ⟨_, rfl, by rw [HE.out, HY.out]; exact HO.out, hk0.trans hkp⟩

end Go.Proofs.YtphdojebdclonaaDoor
