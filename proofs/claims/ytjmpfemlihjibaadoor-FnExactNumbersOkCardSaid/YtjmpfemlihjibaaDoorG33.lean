/- Walks: the reference's NumbersOk. No condition. -/
import Derived.Test.YtjmpfemlihjibaaDoorG32
namespace Go.Proofs.YtjmpfemlihjibaaDoor
open Go.RowKit

set_option maxHeartbeats 2000000 in
set_option maxRecDepth 100000 in
theorem c_sNumbersOk (v : Value) (t : Sp.Task) (A2 : Option Addr) (n2 c2 : Nat) (l : List Int) (w : World) (h : TaskV w v t) (hI : Ints w A2 n2 l) : Calls Tryd.prog 12 #[v, .slice A2 n2 c2] w (RetK (.bool (Sp.numbersOk t l)) w) := by
  obtain ⟨A, n, c, A', n', c', rfl⟩ := h.form
  have hk0 := (Kept.refl w).alloc (.cells #[.int .i64 t.start, .slice A n c, .slice A' n' c'] 30)
  have B0 := Blk.new w 30 #[.int .i64 t.start, .slice A n c, .slice A' n' c']
  have hT := h.keep hk0
  go_enter Tryd.func12, Tryd.ntmps12
  go_wp2_with fail
  refine (c_sTaskValid _ t _ hT).mono ?_; rintro e w2 ⟨rfl, hk2⟩
  replace hk0 := hk0.trans hk2
  replace B0 := B0.kept hk2
  replace hT := hT.keep hk2
  clear hk2
  cases ht : Sp.taskOk t
  · have HE := Lib.hid (numbersOk_no1 (l := l) ht)
    clear ht
    go_wp2_with fail
    go_ret
    exact ⟨ret_bool HE.out.symm, hk0⟩
  by_cases h32 : ¬ n2 = 32
  · have HE := Lib.hid (numbersOk_no2 (t := t) (l := l) (by rw [hI.len]; exact h32))
    have h33 : ((n2 : Int) == 32) = false := beq_eq_false_iff_ne.2 (by omega)
    have h34 : ¬ (n2 : Int) = 32 := by omega
    clear ht
    go_wp2_with fail
    go_ret
    exact ⟨ret_bool HE.out.symm, hk0⟩
  replace h32 := Classical.not_not.1 h32
  have HK := Lib.hid ht
  subst h32
  obtain ⟨b, off, rfl, hN0⟩ := numRow_of hI
  have HLen := Lib.hid hI.len
  have hN := hN0.keep hk0
  have hnl := hT.deeds.le
  have HLn := Lib.hid hT.deeds.len
  have HGo := Lib.hid (Sp.taskOk_goal ht)
  clear ht hI hN0
  go_wp2_with fail
  go_loopw [5] (fun i wr => ∃ j : Nat, j ≤ 32 ∧ i = .int .i64 j ∧ Kept w2 wr ∧ Hid (∀ x, x < j → Sp.numOk t l x = true) ∧ Hid (∀ k, k < n' → ∀ x, x < j → Sp.stepBrk (Sp.flat t.deeds) l (k * 32 + x) = false)) (fun i _ => 32 - (intOf i).toNat)
  case atStart => exact ⟨0, by omega, rfl, Kept.refl _, fun x hx => by omega, fun k hk x hx => by omega⟩
  case round =>
    obtain ⟨j, hj, rfl, hkp, HAll, HNb⟩ := hrel
    have c0 := (B0.kept hkp).cell
    by_cases hlt : j < 32
    · have cj := (hN.keep hkp).2 j hlt
      have HNeg := Lib.hid (@numOk_neg t l j)
      have HGoal := Lib.hid (@numOk_goal t l j)
      have HIn := Lib.hid (@numOk_in t l j)
      have HBad := Lib.hid (@numbersOk_no3 t l j hlt)
      have HNext : Hid (Sp.numOk t l j = true → ∀ x, x < j + 1 → Sp.numOk t l x = true) := fun h1 x hx => by
        by_cases e : x = j
        · subst e; exact h1
        · exact HAll.out x (by omega)
      have hG := (hT.keep hkp).goal
      obtain ⟨y, HY⟩ : ∃ y, Hid (Sp.numAt l j = y) := ⟨_, rfl⟩
      rw [HY.out] at cj HNeg HGoal HIn
      by_cases hy : ¬ (0 ≤ y ∧ y ≤ 40)
      · have HE := Lib.hid (HBad.out (HNeg.out hy))
        go_wp2_with (first | (go_at_call 43; refine (c_l1In_no _ _ _ _ hy).mono ?_; rintro e w' ⟨rfl, rfl⟩))
        go_ret
        exact ⟨ret_bool HE.out.symm, hk0.trans hkp⟩
      replace hy := Classical.not_not.1 hy
      have hy' := hy
      go_wp2_with (first | (go_at_call 43; refine (c_l1In_yes _ _ _ _ hy).mono ?_; rintro e w' ⟨rfl, rfl⟩))
      refine (c_l5Run _ _ _ _ _ _ hG HGo.out (by omega) (by omega)).mono ?_; rintro e w3 ⟨rfl, hk3⟩
      rw [Int.toNat_natCast]
      replace hkp := hkp.trans hk3
      have cj3 := (hN.keep hkp).2 j hlt
      rw [HY.out] at cj3
      clear hk3 c0 cj hG
      obtain ⟨r, HRn⟩ : ∃ r, Hid (Sp.run t.goal j = r) := ⟨_, rfl⟩
      rw [HRn.out] at HGoal HIn ⊢
      have key : Hid (∀ {Q : Prop}, (r = true → y ≠ 0 → Q) → (Sp.numOk t l j = true → Q) → Q) := fun {Q} q1 q2 => by
        by_cases h : r = true ∧ y ≠ 0
        · exact q1 h.1 h.2
        · exact q2 (HIn.out hy' fun h1 => Classical.byContradiction fun h2 => h ⟨h1, h2⟩)
      by_cases hbad : r = true ∧ y ≠ 0
      · obtain ⟨rfl, hy2⟩ := hbad
        have HE := Lib.hid (HBad.out (HGoal.out rfl hy2))
        have hy3 : (y == 0) = false := beq_eq_false_iff_ne.2 hy2
        clear key
        go_wp2_with fail
        go_ret
        exact ⟨ret_bool HE.out.symm, hk0.trans hkp⟩
      have HOk := Lib.hid (HIn.out hy' fun h1 => Classical.byContradiction fun h2 => hbad ⟨h1, h2⟩)
      have HX := Lib.hid (HNext.out HOk.out)
      have hw1 : IntKind.i64.wrap (y - 1) = y - 1 := by rw [IntKind.wrap_i64]; omega
      have hr : r = false ∨ (r = true ∧ y = 0 ∧ (y == 0) = true) := by
        cases r
        · exact .inl rfl
        · have : y = 0 := Classical.byContradiction fun h2 => hbad ⟨rfl, h2⟩
          exact .inr ⟨rfl, this, by rw [this]; rfl⟩
      clear key hbad HNext HIn HGoal HNeg HBad
      have HY0 := HY
      obtain ⟨y0, HY1⟩ : ∃ y0, Hid (y = y0) := ⟨_, rfl⟩
      rw [HY1.out] at HY hw1
      rcases hr with rfl | ⟨rfl, hyz, hyz2⟩
      all_goals
        go_wp2_with fail
        try rw [show decide ((j : Int) < 32) = true from decide_eq_true (by omega)]
        clear cj3
        try clear hyz hyz2
        go_loopw [6] (fun i wr => ∃ k : Nat, k ≤ n' ∧ i = .int .i64 k ∧ Kept w2 wr ∧ Hid (∀ x, x < k → Sp.stepBrk (Sp.flat t.deeds) l (x * 32 + j) = false)) (fun i _ => n' - (intOf i).toNat)
        case atStart => exact ⟨0, Nat.zero_le _, rfl, hkp, fun x hx => by omega⟩
        case round =>
          obtain ⟨k, hk, rfl, hkp, HNk⟩ := hrel
          have c0 := (B0.kept hkp).cell
          by_cases hlt2 : k < n'
          · have hkl : k < t.deeds.length := by rw [HLn.out]; exact hlt2
            obtain ⟨b5, off5, rfl, hb5, hc⟩ := (hT.keep hkp).deeds.at hlt2
            have HDo := Lib.hid (Sp.taskOk_deed HK.out hkl)
            have HF : Hid (Sp.flat t.deeds (k * 32 + j) = Sp.stepI (t.deeds.getD k default) j) := flat_at _ _ _ hlt
            have HB := Lib.hid (brk_at (F := Sp.flat t.deeds) (l := l) (k := k) hlt)
            have HBad := Lib.hid (@numbersOk_no4 t l (k * 32 + j) (by omega))
            have HNx : Hid (Sp.stepBrk (Sp.flat t.deeds) l (k * 32 + j) = false → ∀ x, x < k + 1 → Sp.stepBrk (Sp.flat t.deeds) l (x * 32 + j) = false) := fun hb x hx => by
              by_cases e : x = k
              · subst e; exact hb
              · exact HNk.out x (by omega)
            have hbd := stepI_bd (d := t.deeds.getD k default) hlt HDo.out
            generalize t.deeds.getD k default = d at *
            obtain ⟨A5, n5, c5, hc0, hc1, hc2, hc3, hdv⟩ := hc.v
            have HDv := Lib.hid hdv
            clear hdv hc
            go_wp2_with fail
            refine (c_l6Do _ d _ _ HDv.out HDo.out (by omega) (by omega)).mono ?_; rintro e w7 ⟨rfl, hk7⟩
            rw [Int.toNat_natCast]
            replace hkp := hkp.trans hk7
            clear hk7 c0 hc0 hc1 hc2 hc3 HDv hb5
            obtain ⟨f, HFx⟩ : ∃ f, Hid (Sp.stepI d j = f) := ⟨_, rfl⟩
            rw [HFx.out] at hbd HF ⊢
            rw [HF.out] at HB
            go_wp2_with fail
            by_cases hf : 0 ≤ f
            · obtain ⟨f, rfl⟩ := Int.eq_ofNat_of_zero_le hf
              have hf3 : f < 32 := by omega
              have hf4 : ¬ (32 : Int) ≤ (f : Int) := by omega
              have cx := (hN.keep hkp.drew).2 f hf3
              have cy := (hN.keep hkp.drew).2 j hlt
              rw [Int.toNat_natCast, decide_eq_true hf, Bool.true_and] at HB
              obtain ⟨x, HXf⟩ : ∃ x, Hid (Sp.numAt l f = x) := ⟨_, rfl⟩
              rw [HXf.out] at cx HB
              rw [HY.out] at cy HB
              refine wp_region_held_drew (S := fun w' => w'.cell? ⟨b, off + f, none⟩ = some (.int .i64 x) ∧ w'.cell? ⟨b, off + j, none⟩ = some (.int .i64 y0)) (by kernel_rfl) ⟨cx, cy⟩ (fun hHeld => ?_)
              by_cases hxy : x < y0 - 1
              · rw [decide_eq_true hxy] at HB
                (refine take_val (i := 0) (v := .int .i64 f) rfl rfl (by kernel_rfl) (by kernel_rfl) (by kernel_rfl) (fun _ _ _ h => h) rfl (by intro wq hq; (try go_split_ands); go_simp; try with_reducible rfl) (hHeld) ?_; simp only [List.setIfInBounds_toArray, List.set_cons_zero, List.set_cons_succ])
                (refine take_val (i := 1) (v := .bool true) rfl rfl (by kernel_rfl) (by kernel_rfl) (by kernel_rfl) (fun _ _ _ h => h) rfl (by intro wq hq; (try go_split_ands); go_simp; try with_reducible rfl) (hHeld) ?_; simp only [List.setIfInBounds_toArray, List.set_cons_zero, List.set_cons_succ])
                (refine take_val (i := 2) (v := .bool true) rfl rfl (by kernel_rfl) (by kernel_rfl) (by kernel_rfl) (fun _ _ _ h => h) rfl (by intro wq hq; (try go_split_ands); go_simp; try with_reducible rfl) (hHeld) ?_; simp only [List.setIfInBounds_toArray, List.set_cons_zero, List.set_cons_succ])
                (refine take_val (i := 3) (v := .slice (some ⟨b, off, none⟩) 32 c2) rfl rfl (by kernel_rfl) (by kernel_rfl) (by kernel_rfl) (fun _ _ _ h => h) rfl (by intro wq hq; (try go_split_ands); go_simp; try with_reducible rfl) (hHeld) ?_; simp only [List.setIfInBounds_toArray, List.set_cons_zero, List.set_cons_succ])
                (refine take_val (i := 4) (v := .int .i64 f) rfl rfl (by kernel_rfl) (by kernel_rfl) (by kernel_rfl) (fun _ _ _ h => h) rfl (by intro wq hq; (try go_split_ands); go_simp; try with_reducible rfl) (hHeld) ?_; simp only [List.setIfInBounds_toArray, List.set_cons_zero, List.set_cons_succ])
                (refine take_val (i := 5) (v := .pointer (some ⟨b, off + f, none⟩)) rfl rfl (by kernel_rfl) (by kernel_rfl) (by kernel_rfl) (fun _ _ _ h => h) rfl (by intro wq hq; (try go_split_ands); go_simp; try with_reducible rfl) (hHeld) ?_; simp only [List.setIfInBounds_toArray, List.set_cons_zero, List.set_cons_succ])
                (refine take_val (i := 6) (v := .int .i64 x) rfl rfl (by kernel_rfl) (by kernel_rfl) (by kernel_rfl) (fun _ _ _ h => h) rfl (by intro wq hq; (try go_split_ands); go_simp; try with_reducible rfl) (hHeld) ?_; simp only [List.setIfInBounds_toArray, List.set_cons_zero, List.set_cons_succ])
                (refine take_val (i := 7) (v := .slice (some ⟨b, off, none⟩) 32 c2) rfl rfl (by kernel_rfl) (by kernel_rfl) (by kernel_rfl) (fun _ _ _ h => h) rfl (by intro wq hq; (try go_split_ands); go_simp; try with_reducible rfl) (hHeld) ?_; simp only [List.setIfInBounds_toArray, List.set_cons_zero, List.set_cons_succ])
                (refine take_val (i := 8) (v := .int .i64 j) rfl rfl (by kernel_rfl) (by kernel_rfl) (by kernel_rfl) (fun _ _ _ h => h) rfl (by intro wq hq; (try go_split_ands); go_simp; try with_reducible rfl) (hHeld) ?_; simp only [List.setIfInBounds_toArray, List.set_cons_zero, List.set_cons_succ])
                (refine take_val (i := 9) (v := .pointer (some ⟨b, off + j, none⟩)) rfl rfl (by kernel_rfl) (by kernel_rfl) (by kernel_rfl) (fun _ _ _ h => h) rfl (by intro wq hq; (try go_split_ands); go_simp; try with_reducible rfl) (hHeld) ?_; simp only [List.setIfInBounds_toArray, List.set_cons_zero, List.set_cons_succ])
                (refine take_val (i := 10) (v := .int .i64 y0) rfl rfl (by kernel_rfl) (by kernel_rfl) (by kernel_rfl) (fun _ _ _ h => h) rfl (by intro wq hq; (try go_split_ands); go_simp; try with_reducible rfl) (hHeld) ?_; simp only [List.setIfInBounds_toArray, List.set_cons_zero, List.set_cons_succ])
                (refine take_val (i := 11) (v := .int .i64 (y0 - 1)) rfl rfl (by kernel_rfl) (by kernel_rfl) (by kernel_rfl) (fun _ _ _ h => h) rfl (by intro wq hq; (try go_split_ands); go_simp; try with_reducible rfl) (hHeld) ?_; simp only [List.setIfInBounds_toArray, List.set_cons_zero, List.set_cons_succ])
                (refine take_val (i := 12) (v := .bool true) rfl rfl (by kernel_rfl) (by kernel_rfl) (by kernel_rfl) (fun _ _ _ h => h) rfl (by intro wq hq; (try go_split_ands); go_simp; try with_reducible rfl) (hHeld) ?_; simp only [List.setIfInBounds_toArray, List.set_cons_zero, List.set_cons_succ])
                (refine take_val (i := 13) (v := .bool true) rfl rfl (by kernel_rfl) (by kernel_rfl) (by kernel_rfl) (fun _ _ _ h => h) rfl (by intro wq hq; (try go_split_ands); go_simp; try with_reducible rfl) (hHeld) ?_; simp only [List.setIfInBounds_toArray, List.set_cons_zero, List.set_cons_succ])
                refine wpAnyH_done (by kernel_rfl) ?_ _
                have HE := Lib.hid (HBad.out HB.out)
                clear cx cy hHeld
                go_wp2_with fail
                go_ret
                exact ⟨ret_bool HE.out.symm, hk0.trans hkp.drew⟩
              · rw [decide_eq_false hxy] at HB
                have HX2 := Lib.hid (HNx.out HB.out)
                (refine take_val (i := 0) (v := .int .i64 f) rfl rfl (by kernel_rfl) (by kernel_rfl) (by kernel_rfl) (fun _ _ _ h => h) rfl (by intro wq hq; (try go_split_ands); go_simp; try with_reducible rfl) (hHeld) ?_; simp only [List.setIfInBounds_toArray, List.set_cons_zero, List.set_cons_succ])
                (refine take_val (i := 1) (v := .bool true) rfl rfl (by kernel_rfl) (by kernel_rfl) (by kernel_rfl) (fun _ _ _ h => h) rfl (by intro wq hq; (try go_split_ands); go_simp; try with_reducible rfl) (hHeld) ?_; simp only [List.setIfInBounds_toArray, List.set_cons_zero, List.set_cons_succ])
                (refine take_val (i := 2) (v := .bool true) rfl rfl (by kernel_rfl) (by kernel_rfl) (by kernel_rfl) (fun _ _ _ h => h) rfl (by intro wq hq; (try go_split_ands); go_simp; try with_reducible rfl) (hHeld) ?_; simp only [List.setIfInBounds_toArray, List.set_cons_zero, List.set_cons_succ])
                (refine take_val (i := 3) (v := .slice (some ⟨b, off, none⟩) 32 c2) rfl rfl (by kernel_rfl) (by kernel_rfl) (by kernel_rfl) (fun _ _ _ h => h) rfl (by intro wq hq; (try go_split_ands); go_simp; try with_reducible rfl) (hHeld) ?_; simp only [List.setIfInBounds_toArray, List.set_cons_zero, List.set_cons_succ])
                (refine take_val (i := 4) (v := .int .i64 f) rfl rfl (by kernel_rfl) (by kernel_rfl) (by kernel_rfl) (fun _ _ _ h => h) rfl (by intro wq hq; (try go_split_ands); go_simp; try with_reducible rfl) (hHeld) ?_; simp only [List.setIfInBounds_toArray, List.set_cons_zero, List.set_cons_succ])
                (refine take_val (i := 5) (v := .pointer (some ⟨b, off + f, none⟩)) rfl rfl (by kernel_rfl) (by kernel_rfl) (by kernel_rfl) (fun _ _ _ h => h) rfl (by intro wq hq; (try go_split_ands); go_simp; try with_reducible rfl) (hHeld) ?_; simp only [List.setIfInBounds_toArray, List.set_cons_zero, List.set_cons_succ])
                (refine take_val (i := 6) (v := .int .i64 x) rfl rfl (by kernel_rfl) (by kernel_rfl) (by kernel_rfl) (fun _ _ _ h => h) rfl (by intro wq hq; (try go_split_ands); go_simp; try with_reducible rfl) (hHeld) ?_; simp only [List.setIfInBounds_toArray, List.set_cons_zero, List.set_cons_succ])
                (refine take_val (i := 7) (v := .slice (some ⟨b, off, none⟩) 32 c2) rfl rfl (by kernel_rfl) (by kernel_rfl) (by kernel_rfl) (fun _ _ _ h => h) rfl (by intro wq hq; (try go_split_ands); go_simp; try with_reducible rfl) (hHeld) ?_; simp only [List.setIfInBounds_toArray, List.set_cons_zero, List.set_cons_succ])
                (refine take_val (i := 8) (v := .int .i64 j) rfl rfl (by kernel_rfl) (by kernel_rfl) (by kernel_rfl) (fun _ _ _ h => h) rfl (by intro wq hq; (try go_split_ands); go_simp; try with_reducible rfl) (hHeld) ?_; simp only [List.setIfInBounds_toArray, List.set_cons_zero, List.set_cons_succ])
                (refine take_val (i := 9) (v := .pointer (some ⟨b, off + j, none⟩)) rfl rfl (by kernel_rfl) (by kernel_rfl) (by kernel_rfl) (fun _ _ _ h => h) rfl (by intro wq hq; (try go_split_ands); go_simp; try with_reducible rfl) (hHeld) ?_; simp only [List.setIfInBounds_toArray, List.set_cons_zero, List.set_cons_succ])
                (refine take_val (i := 10) (v := .int .i64 y0) rfl rfl (by kernel_rfl) (by kernel_rfl) (by kernel_rfl) (fun _ _ _ h => h) rfl (by intro wq hq; (try go_split_ands); go_simp; try with_reducible rfl) (hHeld) ?_; simp only [List.setIfInBounds_toArray, List.set_cons_zero, List.set_cons_succ])
                (refine take_val (i := 11) (v := .int .i64 (y0 - 1)) rfl rfl (by kernel_rfl) (by kernel_rfl) (by kernel_rfl) (fun _ _ _ h => h) rfl (by intro wq hq; (try go_split_ands); go_simp; try with_reducible rfl) (hHeld) ?_; simp only [List.setIfInBounds_toArray, List.set_cons_zero, List.set_cons_succ])
                (refine take_val (i := 12) (v := .bool false) rfl rfl (by kernel_rfl) (by kernel_rfl) (by kernel_rfl) (fun _ _ _ h => h) rfl (by intro wq hq; (try go_split_ands); go_simp; try with_reducible rfl) (hHeld) ?_; simp only [List.setIfInBounds_toArray, List.set_cons_zero, List.set_cons_succ])
                (refine take_val (i := 13) (v := .bool false) rfl rfl (by kernel_rfl) (by kernel_rfl) (by kernel_rfl) (fun _ _ _ h => h) rfl (by intro wq hq; (try go_split_ands); go_simp; try with_reducible rfl) (hHeld) ?_; simp only [List.setIfInBounds_toArray, List.set_cons_zero, List.set_cons_succ])
                refine wpAnyH_done (by kernel_rfl) ?_ _
                clear cx cy hHeld
                go_wp2_with fail
                exact ⟨⟨k + 1, by omega, by go_num, hkp.drew, HX2⟩, by simp [intOf]; omega⟩
            · rw [decide_eq_false hf, Bool.false_and] at HB
              have HX2 := Lib.hid (HNx.out HB.out)
              refine wp_region_held_drew (S := fun w' => True) (by kernel_rfl) trivial (fun hHeld => ?_)
              (refine take_val (i := 0) (v := .int .i64 f) rfl rfl (by kernel_rfl) (by kernel_rfl) (by kernel_rfl) (fun _ _ _ h => h) rfl (by intro wq hq; (try go_split_ands); go_simp; try with_reducible rfl) (hHeld) ?_; simp only [List.setIfInBounds_toArray, List.set_cons_zero, List.set_cons_succ])
              (refine take_val (i := 1) (v := .bool false) rfl rfl (by kernel_rfl) (by kernel_rfl) (by kernel_rfl) (fun _ _ _ h => h) rfl (by intro wq hq; (try go_split_ands); go_simp; try with_reducible rfl) (hHeld) ?_; simp only [List.setIfInBounds_toArray, List.set_cons_zero, List.set_cons_succ])
              (refine take_val (i := 2) (v := .bool false) rfl rfl (by kernel_rfl) (by kernel_rfl) (by kernel_rfl) (fun _ _ _ h => h) rfl (by intro wq hq; (try go_split_ands); go_simp; try with_reducible rfl) (hHeld) ?_; simp only [List.setIfInBounds_toArray, List.set_cons_zero, List.set_cons_succ])
              (refine take_skip (i := 3) rfl rfl (by kernel_rfl) (by kernel_rfl) (by kernel_rfl) (fun _ _ _ h => h) rfl (hHeld) ?_; simp only [List.setIfInBounds_toArray, List.set_cons_zero, List.set_cons_succ])
              (refine take_skip (i := 4) rfl rfl (by kernel_rfl) (by kernel_rfl) (by kernel_rfl) (fun _ _ _ h => h) rfl (hHeld) ?_; simp only [List.setIfInBounds_toArray, List.set_cons_zero, List.set_cons_succ])
              (refine take_skip (i := 5) rfl rfl (by kernel_rfl) (by kernel_rfl) (by kernel_rfl) (fun _ _ _ h => h) rfl (hHeld) ?_; simp only [List.setIfInBounds_toArray, List.set_cons_zero, List.set_cons_succ])
              (refine take_skip (i := 6) rfl rfl (by kernel_rfl) (by kernel_rfl) (by kernel_rfl) (fun _ _ _ h => h) rfl (hHeld) ?_; simp only [List.setIfInBounds_toArray, List.set_cons_zero, List.set_cons_succ])
              (refine take_skip (i := 7) rfl rfl (by kernel_rfl) (by kernel_rfl) (by kernel_rfl) (fun _ _ _ h => h) rfl (hHeld) ?_; simp only [List.setIfInBounds_toArray, List.set_cons_zero, List.set_cons_succ])
              (refine take_skip (i := 8) rfl rfl (by kernel_rfl) (by kernel_rfl) (by kernel_rfl) (fun _ _ _ h => h) rfl (hHeld) ?_; simp only [List.setIfInBounds_toArray, List.set_cons_zero, List.set_cons_succ])
              (refine take_skip (i := 9) rfl rfl (by kernel_rfl) (by kernel_rfl) (by kernel_rfl) (fun _ _ _ h => h) rfl (hHeld) ?_; simp only [List.setIfInBounds_toArray, List.set_cons_zero, List.set_cons_succ])
              (refine take_skip (i := 10) rfl rfl (by kernel_rfl) (by kernel_rfl) (by kernel_rfl) (fun _ _ _ h => h) rfl (hHeld) ?_; simp only [List.setIfInBounds_toArray, List.set_cons_zero, List.set_cons_succ])
              (refine take_skip (i := 11) rfl rfl (by kernel_rfl) (by kernel_rfl) (by kernel_rfl) (fun _ _ _ h => h) rfl (hHeld) ?_; simp only [List.setIfInBounds_toArray, List.set_cons_zero, List.set_cons_succ])
              (refine take_skip (i := 12) rfl rfl (by kernel_rfl) (by kernel_rfl) (by kernel_rfl) (fun _ _ _ h => h) rfl (hHeld) ?_; simp only [List.setIfInBounds_toArray, List.set_cons_zero, List.set_cons_succ])
              (refine take_val (i := 13) (v := .bool false) rfl rfl (by kernel_rfl) (by kernel_rfl) (by kernel_rfl) (fun _ _ _ h => h) rfl (by intro wq hq; (try go_split_ands); go_simp; try with_reducible rfl) (hHeld) ?_; simp only [List.setIfInBounds_toArray, List.set_cons_zero, List.set_cons_succ])
              refine wpAnyH_done (by kernel_rfl) ?_ _
              clear hHeld
              go_wp2_with fail
              exact ⟨⟨k + 1, by omega, by go_num, hkp.drew, HX2⟩, by simp [intOf]; omega⟩
          · obtain rfl : k = n' := by omega
            have HNb2 : Hid (∀ x, x < k → ∀ y, y < j + 1 → Sp.stepBrk (Sp.flat t.deeds) l (x * 32 + y) = false) := fun x hx y hy => by
              by_cases e : y = j
              · subst e; exact HNk.out x hx
              · exact HNb.out x hx y (by omega)
            go_wp2_with fail
            exact ⟨⟨j + 1, by omega, by go_num, hkp, HX, HNb2⟩, by simp [intOf]; omega⟩
    · obtain rfl : j = 32 := by omega
      have HE : Hid (Sp.numbersOk t l = true) := numbersOk_yes HK.out HLen.out HAll.out fun p hp => by
        rw [HLn.out] at hp
        have := HNb.out (p / 32) (by omega) (p % 32) (by omega)
        rwa [show p / 32 * 32 + p % 32 = p by omega] at this
      go_wp2_with fail
      go_ret
      exact ⟨ret_bool HE.out.symm, hk0.trans hkp⟩

end Go.Proofs.YtjmpfemlihjibaaDoor
