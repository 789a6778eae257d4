/- Walks: OnWay. No condition. -/
import Derived.Test.YtfbpcbjlogdflaaG17
import Derived.Test.YtfbpcbjlogdflaaG11
import Derived.Deep.RegionHeld3
import Derived.Test.YtfbpcbjlogdflaaTake
namespace Go.Proofs.Ytfbpcbjlogdflaa
open Go.RowKit

/-- how far a state is from the Start -/
def Sp.gone (t : Sp.Task) (s : Nat) : Int := Sp.dist (Sp.rel t) (2 ^ t.start.toNat) s
theorem gone_bd {t : Sp.Task} (hok : Sp.taskOk t = true) {s : Nat} (hs : s < 32) : -1 ≤ Sp.gone t s ∧ Sp.gone t s ≤ 31 := by
  obtain ⟨h0, h1⟩ := Sp.taskOk_start hok
  exact dist_bd (Nat.pow_lt_pow_right (by decide) (by omega)) s hs
def Sp.wayB (t : Sp.Task) (s : Nat) : Bool := decide (0 ≤ Sp.gone t s) && decide (0 ≤ Sp.toGo t s) && (Sp.gone t s + Sp.toGo t s == Sp.toGo t t.start.toNat)
def Sp.onWay (t : Sp.Task) : Int := if Sp.taskOk t = true then (Sp.setOf 32 (Sp.wayB t) : Nat) else -1
theorem stepsFrom_yes {t : Sp.Task} (h : Sp.taskOk t = true) : (Sp.stepsFrom t).length = 32 ∧ ∀ s, s < 32 → (Sp.stepsFrom t).getD s default = Sp.gone t s := by
  unfold Sp.stepsFrom
  rw [if_pos h]
  exact ⟨distList_len _ _, fun s hs => distList_at _ _ s hs⟩
theorem stepsLeast_yes {t : Sp.Task} (h : Sp.taskOk t = true) : (Sp.stepsLeast t).length = 32 ∧ ∀ s, s < 32 → (Sp.stepsLeast t).getD s default = Sp.toGo t s := by
  unfold Sp.stepsLeast
  rw [if_pos h]
  exact ⟨distList_len _ _, fun s hs => distList_at _ _ s hs⟩
/-- a list of 32 integers that a call made, as a row -/
theorem OI.row32 {B C : Nat} {w : World} {A : Option Addr} {l : List Int} {f : Nat → Int} (h : OI B C w A l) (hl : l.length = 32) (hf : ∀ s, s < 32 → l.getD s default = f s) : ∃ g, A = some ⟨g, 0, none⟩ ∧ B ≤ g ∧ IntRow w g 32 f := by
  obtain ⟨g, e, h1, _, hw⟩ := h.2 (by omega)
  have := hw.row (by omega)
  rw [hl] at this
  exact ⟨g, e, h1, this.congr hf⟩

set_option maxHeartbeats 1000000 in
set_option maxRecDepth 100000 in
theorem c_sOnWay (v : Value) (t : Sp.Task) (w : World) (h : TaskV w v t) : Calls Try.prog 42 #[v] w (RetK (.int .i64 (Sp.onWay t)) w) := by
  obtain ⟨A, n, c, A', n', c', rfl⟩ := h.form
  have hk0 := (Kept.refl w).alloc (.cells #[.int .i64 t.start, .slice A n c, .slice A' n' c'] 30)
  have hT := h.keep hk0
  have B0 := Blk.new w 30 #[.int .i64 t.start, .slice A n c, .slice A' n' c']
  go_enter Try.func42, Try.ntmps42
  go_wp2_with fail
  refine (c_sTaskValid _ t _ hT).mono ?_; rintro e w2 ⟨rfl, hk2⟩
  replace hk0 := hk0.trans hk2
  replace B0 := B0.kept hk2
  replace hT := hT.keep hk2
  clear hk2
  have c0 := B0.cell
  cases ht : Sp.taskOk t
  · have HE : Hid (Sp.onWay t = -1) := by show _ = _; unfold Sp.onWay; rw [ht]; simp
    clear ht
    go_wp2_with fail
    go_ret
    exact ⟨ret_int HE.out.symm, hk0⟩
  have HE : Hid (Sp.onWay t = (Sp.setOf 32 (Sp.wayB t) : Nat)) := by show _ = _; unfold Sp.onWay; rw [if_pos ht]
  obtain ⟨hs0, hs1⟩ := Sp.taskOk_start ht
  obtain ⟨st, hst⟩ := Int.eq_ofNat_of_zero_le hs0
  have HST := Lib.hid hst
  have HF := Lib.hid (stepsFrom_yes ht)
  have HL := Lib.hid (stepsLeast_yes ht)
  have HGB := Lib.hid (fun s (hs : s < 32) => gone_bd ht hs)
  have HW : Hid (∀ s, Sp.wayB t s = (decide (0 ≤ Sp.gone t s) && decide (0 ≤ Sp.toGo t s) && (Sp.gone t s + Sp.toGo t s == Sp.toGo t st))) := fun s => by unfold Sp.wayB; rw [HST.out, Int.toNat_natCast]
  clear ht hst
  go_wp2_with fail
  refine (c_sStepsFrom _ t _ hT).mono ?_; rintro e w3 ⟨v, rfl, ⟨A1, cc1, rfl, hO1⟩, hk3⟩
  rw [HF.out.1]
  obtain ⟨g1, rfl, hg1, hR1⟩ := hO1.row32 HF.out.1 HF.out.2
  replace hk0 := hk0.trans hk3
  replace B0 := B0.kept hk3
  replace hT := hT.keep hk3
  clear hk3 c0 hO1
  have c0 := B0.cell
  go_wp2_with fail
  refine (c_sStepsLeast _ t _ hT).mono ?_; rintro e w4 ⟨v, rfl, ⟨A2, cc2, rfl, hO2⟩, hk4⟩
  rw [HL.out.1]
  obtain ⟨g2, rfl, hg2, hR2⟩ := hO2.row32 HL.out.1 HL.out.2
  replace hk0 := hk0.trans hk4
  replace B0 := B0.kept hk4
  replace hR1 := hR1.keep hk4
  clear hk4 c0 hO2 hT
  rw [HST.out] at hs1 B0
  clear hs0
  have hb0 : (0 : Int) ≤ (st : Int) := by omega
  have hb1 : (st : Int) < 32 := by omega
  go_wp2_with fail
  go_loopw [6, 3] (fun i o wr => ∃ k : Nat, k ≤ 32 ∧ i = .int .i64 k ∧ o = .int .i64 (Sp.setOf k (Sp.wayB t) : Nat) ∧ Kept w wr ∧ Blk wr w.heap.size 30 #[.int .i64 (st : Int), .slice A n c, .slice A' n' c'] ∧ IntRow wr g1 32 (Sp.gone t) ∧ IntRow wr g2 32 (Sp.toGo t)) (fun i _ _ => 32 - (intOf i).toNat)
  case atStart => exact ⟨0, by omega, rfl, rfl, hk0, B0, hR1, hR2⟩
  case round =>
    obtain ⟨k, hk, rfl, rfl, hkp, hB, hR1, hR2⟩ := hrel
    by_cases hlt : k < 32
    · have c1 := hR1.2.2 k hlt
      have c2 := hR2.2.2 k hlt
      have c3 := hR2.2.2 st (by omega)
      have c0 := hB.cell 0
      have hdr := hkp.drew
      have hBd := hB.drew
      have hR1d := hR1.keep (Kept.refl wr).drew
      have hR2d := hR2.keep (Kept.refl wr).drew
      have c1d := hR1d.2.2 k hlt
      have c2d := hR2d.2.2 k hlt
      have c3d := hR2d.2.2 st (by omega)
      have c0d := hBd.cell 0
      have hgb := HGB.out k hlt
      have htb := toGo_bd t hlt
      have hsb := toGo_bd t (s := st) (by omega)
      have HWk := Lib.hid (HW.out k)
      have hbd := setOf_bd k (Sp.wayB t) (by omega)
      have hp2 := p2_bd32 k (by omega)
      have HST2 := Lib.hid (setOf_step k (Sp.wayB t) hlt)
      have hsh := bin_shl_one k (by omega)
      generalize Sp.gone t k = f at *
      generalize Sp.toGo t k = b at *
      generalize Sp.toGo t st = s at *
      have HG : Hid (Kept w wr.drew ∧ Blk wr.drew w.heap.size 30 #[.int .i64 (st : Int), .slice A n c, .slice A' n' c'] ∧ IntRow wr.drew g1 32 (Sp.gone t) ∧ IntRow wr.drew g2 32 (Sp.toGo t)) := ⟨hdr, hBd, hR1d, hR2d⟩
      clear hR1 hR2 hB hkp hdr hBd hR1d hR2d
      have hkb0 : (0 : Int) ≤ (k : Int) := by omega
      have hkb1 : (k : Int) < 32 := by omega
      by_cases hp : 0 ≤ f ∧ 0 ≤ b ∧ f + b = s
      · obtain ⟨h1, h2, h3⟩ := hp
        have hadd : IntKind.i64.wrap (f + b) = f + b := by rw [IntKind.wrap_i64]; omega
        have heq : (f + b == s) = true := by rw [h3]; simp
        have HY : Hid (Sp.wayB t k = true) := by show _ = _; rw [HWk.out, decide_eq_true h1, decide_eq_true h2, heq]; rfl
        clear h3
        have HX : Hid ((Sp.setOf k (Sp.wayB t) : Int) + p2 k = (Sp.setOf (k + 1) (Sp.wayB t) : Nat)) := (HST2.out.1 HY.out).symm
        go_wp2_with fail
        go_region_held3 (fun w' => w'.cell? ⟨w.heap.size, 0, none⟩ = some (.int .i64 st) ∧ w'.cell? ⟨g1, k, none⟩ = some (.int .i64 f) ∧ w'.cell? ⟨g2, k, none⟩ = some (.int .i64 b) ∧ w'.cell? ⟨g2, st, none⟩ = some (.int .i64 s))
          (first | exact ⟨c0, c1, c2, c3⟩ | exact ⟨c0d, c1d, c2d, c3d⟩) (first | fail)
        all_goals
          go_wp2_with fail
          exact ⟨⟨k + 1, by omega, by go_num, by rw [← HX.out], HG.out.1, HG.out.2.1, HG.out.2.2.1, HG.out.2.2.2⟩, by simp [intOf]; omega⟩
      · have HN : Hid (Sp.setOf (k + 1) (Sp.wayB t) = Sp.setOf k (Sp.wayB t)) := HST2.out.2.2 (by
          rw [HWk.out]
          by_cases h1 : 0 ≤ f
          · by_cases h2 : 0 ≤ b
            · have : ¬ f + b = s := fun e => hp ⟨h1, h2, e⟩
              rw [beq_eq_false_iff_ne.2 this, Bool.and_false]
            · rw [decide_eq_false h2]; simp
          · rw [decide_eq_false h1]; simp)
        by_cases h1 : 0 ≤ f
        · by_cases h2 : 0 ≤ b
          · have hadd : IntKind.i64.wrap (f + b) = f + b := by rw [IntKind.wrap_i64]; omega
            have heq : (f + b == s) = false := beq_eq_false_iff_ne.2 fun e => hp ⟨h1, h2, e⟩
            clear hp
            go_wp2_with fail
            go_region_held3 (fun w' => w'.cell? ⟨w.heap.size, 0, none⟩ = some (.int .i64 st) ∧ w'.cell? ⟨g1, k, none⟩ = some (.int .i64 f) ∧ w'.cell? ⟨g2, k, none⟩ = some (.int .i64 b) ∧ w'.cell? ⟨g2, st, none⟩ = some (.int .i64 s))
              (first | exact ⟨c0, c1, c2, c3⟩ | exact ⟨c0d, c1d, c2d, c3d⟩) (first | fail)
            all_goals
              go_wp2_with fail
              exact ⟨⟨k + 1, by omega, by go_num, by rw [HN.out], HG.out.1, HG.out.2.1, HG.out.2.2.1, HG.out.2.2.2⟩, by simp [intOf]; omega⟩
          · clear hp
            have hdb : decide (0 ≤ b) = false := decide_eq_false h2
            go_wp2_with fail
            refine wp_region_held_drew (S := fun w' => w'.cell? ⟨w.heap.size, 0, none⟩ = some (.int .i64 st) ∧ w'.cell? ⟨g1, k, none⟩ = some (.int .i64 f) ∧ w'.cell? ⟨g2, k, none⟩ = some (.int .i64 b) ∧ w'.cell? ⟨g2, st, none⟩ = some (.int .i64 s)) (by kernel_rfl) ⟨c0d, c1d, c2d, c3d⟩ (fun hHeld => ?_)
            (refine take_val (i := 0) (v := .slice (some ⟨g1, 0, none⟩) 32 cc1) rfl rfl (by kernel_rfl) (by kernel_rfl) (by kernel_rfl) (fun _ _ _ h => h) rfl (by intro wq hq; (try go_split_ands); go_simp; try with_reducible rfl) (hHeld) ?_; simp only [List.setIfInBounds_toArray, List.set_cons_zero, List.set_cons_succ])
            (refine take_val (i := 1) (v := .int .i64 k) rfl rfl (by kernel_rfl) (by kernel_rfl) (by kernel_rfl) (fun _ _ _ h => h) rfl (by intro wq hq; (try go_split_ands); go_simp; try with_reducible rfl) (hHeld) ?_; simp only [List.setIfInBounds_toArray, List.set_cons_zero, List.set_cons_succ])
            (refine take_val (i := 2) (v := .pointer (some ⟨g1, k, none⟩)) rfl rfl (by kernel_rfl) (by kernel_rfl) (by kernel_rfl) (fun _ _ _ h => h) rfl (by intro wq hq; (try go_split_ands); go_simp; try with_reducible rfl) (hHeld) ?_; simp only [List.setIfInBounds_toArray, List.set_cons_zero, List.set_cons_succ])
            (refine take_val (i := 3) (v := .int .i64 f) rfl rfl (by kernel_rfl) (by kernel_rfl) (by kernel_rfl) (fun _ _ _ h => h) rfl (by intro wq hq; (try go_split_ands); go_simp; try with_reducible rfl) (hHeld) ?_; simp only [List.setIfInBounds_toArray, List.set_cons_zero, List.set_cons_succ])
            (refine take_val (i := 4) (v := .bool true) rfl rfl (by kernel_rfl) (by kernel_rfl) (by kernel_rfl) (fun _ _ _ h => h) rfl (by intro wq hq; (try go_split_ands); go_simp; try with_reducible rfl) (hHeld) ?_; simp only [List.setIfInBounds_toArray, List.set_cons_zero, List.set_cons_succ])
            (refine take_val (i := 5) (v := .bool true) rfl rfl (by kernel_rfl) (by kernel_rfl) (by kernel_rfl) (fun _ _ _ h => h) rfl (by intro wq hq; (try go_split_ands); go_simp; try with_reducible rfl) (hHeld) ?_; simp only [List.setIfInBounds_toArray, List.set_cons_zero, List.set_cons_succ])
            (refine take_val (i := 6) (v := .slice (some ⟨g2, 0, none⟩) 32 cc2) rfl rfl (by kernel_rfl) (by kernel_rfl) (by kernel_rfl) (fun _ _ _ h => h) rfl (by intro wq hq; (try go_split_ands); go_simp; try with_reducible rfl) (hHeld) ?_; simp only [List.setIfInBounds_toArray, List.set_cons_zero, List.set_cons_succ])
            (refine take_val (i := 7) (v := .int .i64 k) rfl rfl (by kernel_rfl) (by kernel_rfl) (by kernel_rfl) (fun _ _ _ h => h) rfl (by intro wq hq; (try go_split_ands); go_simp; try with_reducible rfl) (hHeld) ?_; simp only [List.setIfInBounds_toArray, List.set_cons_zero, List.set_cons_succ])
            (refine take_val (i := 8) (v := .pointer (some ⟨g2, k, none⟩)) rfl rfl (by kernel_rfl) (by kernel_rfl) (by kernel_rfl) (fun _ _ _ h => h) rfl (by intro wq hq; (try go_split_ands); go_simp; try with_reducible rfl) (hHeld) ?_; simp only [List.setIfInBounds_toArray, List.set_cons_zero, List.set_cons_succ])
            (refine take_val (i := 9) (v := .int .i64 b) rfl rfl (by kernel_rfl) (by kernel_rfl) (by kernel_rfl) (fun _ _ _ h => h) rfl (by intro wq hq; (try go_split_ands); go_simp; try with_reducible rfl) (hHeld) ?_; simp only [List.setIfInBounds_toArray, List.set_cons_zero, List.set_cons_succ])
            (refine take_val (i := 10) (v := .bool false) rfl rfl (by kernel_rfl) (by kernel_rfl) (by kernel_rfl) (fun _ _ _ h => h) rfl (by intro wq hq; (try go_split_ands); go_simp; try with_reducible rfl) (hHeld) ?_; simp only [List.setIfInBounds_toArray, List.set_cons_zero, List.set_cons_succ])
            (refine take_val (i := 11) (v := .bool false) rfl rfl (by kernel_rfl) (by kernel_rfl) (by kernel_rfl) (fun _ _ _ h => h) rfl (by intro wq hq; (try go_split_ands); go_simp; try with_reducible rfl) (hHeld) ?_; simp only [List.setIfInBounds_toArray, List.set_cons_zero, List.set_cons_succ])
            (refine take_val (i := 12) (v := .bool false) rfl rfl (by kernel_rfl) (by kernel_rfl) (by kernel_rfl) (fun _ _ _ h => h) rfl (by intro wq hq; (try go_split_ands); go_simp; try with_reducible rfl) (hHeld) ?_; simp only [List.setIfInBounds_toArray, List.set_cons_zero, List.set_cons_succ])
            (refine take_skip (i := 13) rfl rfl (by kernel_rfl) (by kernel_rfl) (by kernel_rfl) (fun _ _ _ h => h) rfl (hHeld) ?_; simp only [List.setIfInBounds_toArray, List.set_cons_zero, List.set_cons_succ])
            (refine take_skip (i := 14) rfl rfl (by kernel_rfl) (by kernel_rfl) (by kernel_rfl) (fun _ _ _ h => h) rfl (hHeld) ?_; simp only [List.setIfInBounds_toArray, List.set_cons_zero, List.set_cons_succ])
            (refine take_skip (i := 15) rfl rfl (by kernel_rfl) (by kernel_rfl) (by kernel_rfl) (fun _ _ _ h => h) rfl (hHeld) ?_; simp only [List.setIfInBounds_toArray, List.set_cons_zero, List.set_cons_succ])
            (refine take_skip (i := 16) rfl rfl (by kernel_rfl) (by kernel_rfl) (by kernel_rfl) (fun _ _ _ h => h) rfl (hHeld) ?_; simp only [List.setIfInBounds_toArray, List.set_cons_zero, List.set_cons_succ])
            (refine take_skip (i := 17) rfl rfl (by kernel_rfl) (by kernel_rfl) (by kernel_rfl) (fun _ _ _ h => h) rfl (hHeld) ?_; simp only [List.setIfInBounds_toArray, List.set_cons_zero, List.set_cons_succ])
            (refine take_skip (i := 18) rfl rfl (by kernel_rfl) (by kernel_rfl) (by kernel_rfl) (fun _ _ _ h => h) rfl (hHeld) ?_; simp only [List.setIfInBounds_toArray, List.set_cons_zero, List.set_cons_succ])
            (refine take_skip (i := 19) rfl rfl (by kernel_rfl) (by kernel_rfl) (by kernel_rfl) (fun _ _ _ h => h) rfl (hHeld) ?_; simp only [List.setIfInBounds_toArray, List.set_cons_zero, List.set_cons_succ])
            (refine take_skip (i := 20) rfl rfl (by kernel_rfl) (by kernel_rfl) (by kernel_rfl) (fun _ _ _ h => h) rfl (hHeld) ?_; simp only [List.setIfInBounds_toArray, List.set_cons_zero, List.set_cons_succ])
            (refine take_skip (i := 21) rfl rfl (by kernel_rfl) (by kernel_rfl) (by kernel_rfl) (fun _ _ _ h => h) rfl (hHeld) ?_; simp only [List.setIfInBounds_toArray, List.set_cons_zero, List.set_cons_succ])
            (refine take_skip (i := 22) rfl rfl (by kernel_rfl) (by kernel_rfl) (by kernel_rfl) (fun _ _ _ h => h) rfl (hHeld) ?_; simp only [List.setIfInBounds_toArray, List.set_cons_zero, List.set_cons_succ])
            (refine take_skip (i := 23) rfl rfl (by kernel_rfl) (by kernel_rfl) (by kernel_rfl) (fun _ _ _ h => h) rfl (hHeld) ?_; simp only [List.setIfInBounds_toArray, List.set_cons_zero, List.set_cons_succ])
            (refine take_skip (i := 24) rfl rfl (by kernel_rfl) (by kernel_rfl) (by kernel_rfl) (fun _ _ _ h => h) rfl (hHeld) ?_; simp only [List.setIfInBounds_toArray, List.set_cons_zero, List.set_cons_succ])
            (refine take_skip (i := 25) rfl rfl (by kernel_rfl) (by kernel_rfl) (by kernel_rfl) (fun _ _ _ h => h) rfl (hHeld) ?_; simp only [List.setIfInBounds_toArray, List.set_cons_zero, List.set_cons_succ])
            (refine take_skip (i := 26) rfl rfl (by kernel_rfl) (by kernel_rfl) (by kernel_rfl) (fun _ _ _ h => h) rfl (hHeld) ?_; simp only [List.setIfInBounds_toArray, List.set_cons_zero, List.set_cons_succ])
            (refine take_skip (i := 27) rfl rfl (by kernel_rfl) (by kernel_rfl) (by kernel_rfl) (fun _ _ _ h => h) rfl (hHeld) ?_; simp only [List.setIfInBounds_toArray, List.set_cons_zero, List.set_cons_succ])
            (refine take_val (i := 28) (v := .bool false) rfl rfl (by kernel_rfl) (by kernel_rfl) (by kernel_rfl) (fun _ _ _ h => h) rfl (by intro wq hq; (try go_split_ands); go_simp; try with_reducible rfl) (hHeld) ?_; simp only [List.setIfInBounds_toArray, List.set_cons_zero, List.set_cons_succ])
            refine wpAnyH_done (by kernel_rfl) ?_ _
            go_wp2_with fail
            exact ⟨⟨k + 1, by omega, by go_num, by rw [HN.out], HG.out.1, HG.out.2.1, HG.out.2.2.1, HG.out.2.2.2⟩, by simp [intOf]; omega⟩
        · clear hp
          have hdf : decide (0 ≤ f) = false := decide_eq_false h1
          go_wp2_with fail
          refine wp_region_held_drew (S := fun w' => w'.cell? ⟨w.heap.size, 0, none⟩ = some (.int .i64 st) ∧ w'.cell? ⟨g1, k, none⟩ = some (.int .i64 f) ∧ w'.cell? ⟨g2, k, none⟩ = some (.int .i64 b) ∧ w'.cell? ⟨g2, st, none⟩ = some (.int .i64 s)) (by kernel_rfl) ⟨c0d, c1d, c2d, c3d⟩ (fun hHeld => ?_)
          (refine take_val (i := 0) (v := .slice (some ⟨g1, 0, none⟩) 32 cc1) rfl rfl (by kernel_rfl) (by kernel_rfl) (by kernel_rfl) (fun _ _ _ h => h) rfl (by intro wq hq; (try go_split_ands); go_simp; try with_reducible rfl) (hHeld) ?_; simp only [List.setIfInBounds_toArray, List.set_cons_zero, List.set_cons_succ])
          (refine take_val (i := 1) (v := .int .i64 k) rfl rfl (by kernel_rfl) (by kernel_rfl) (by kernel_rfl) (fun _ _ _ h => h) rfl (by intro wq hq; (try go_split_ands); go_simp; try with_reducible rfl) (hHeld) ?_; simp only [List.setIfInBounds_toArray, List.set_cons_zero, List.set_cons_succ])
          (refine take_val (i := 2) (v := .pointer (some ⟨g1, k, none⟩)) rfl rfl (by kernel_rfl) (by kernel_rfl) (by kernel_rfl) (fun _ _ _ h => h) rfl (by intro wq hq; (try go_split_ands); go_simp; try with_reducible rfl) (hHeld) ?_; simp only [List.setIfInBounds_toArray, List.set_cons_zero, List.set_cons_succ])
          (refine take_val (i := 3) (v := .int .i64 f) rfl rfl (by kernel_rfl) (by kernel_rfl) (by kernel_rfl) (fun _ _ _ h => h) rfl (by intro wq hq; (try go_split_ands); go_simp; try with_reducible rfl) (hHeld) ?_; simp only [List.setIfInBounds_toArray, List.set_cons_zero, List.set_cons_succ])
          (refine take_val (i := 4) (v := .bool false) rfl rfl (by kernel_rfl) (by kernel_rfl) (by kernel_rfl) (fun _ _ _ h => h) rfl (by intro wq hq; (try go_split_ands); go_simp; try with_reducible rfl) (hHeld) ?_; simp only [List.setIfInBounds_toArray, List.set_cons_zero, List.set_cons_succ])
          (refine take_val (i := 5) (v := .bool false) rfl rfl (by kernel_rfl) (by kernel_rfl) (by kernel_rfl) (fun _ _ _ h => h) rfl (by intro wq hq; (try go_split_ands); go_simp; try with_reducible rfl) (hHeld) ?_; simp only [List.setIfInBounds_toArray, List.set_cons_zero, List.set_cons_succ])
          (refine take_skip (i := 6) rfl rfl (by kernel_rfl) (by kernel_rfl) (by kernel_rfl) (fun _ _ _ h => h) rfl (hHeld) ?_; simp only [List.setIfInBounds_toArray, List.set_cons_zero, List.set_cons_succ])
          (refine take_skip (i := 7) rfl rfl (by kernel_rfl) (by kernel_rfl) (by kernel_rfl) (fun _ _ _ h => h) rfl (hHeld) ?_; simp only [List.setIfInBounds_toArray, List.set_cons_zero, List.set_cons_succ])
          (refine take_skip (i := 8) rfl rfl (by kernel_rfl) (by kernel_rfl) (by kernel_rfl) (fun _ _ _ h => h) rfl (hHeld) ?_; simp only [List.setIfInBounds_toArray, List.set_cons_zero, List.set_cons_succ])
          (refine take_skip (i := 9) rfl rfl (by kernel_rfl) (by kernel_rfl) (by kernel_rfl) (fun _ _ _ h => h) rfl (hHeld) ?_; simp only [List.setIfInBounds_toArray, List.set_cons_zero, List.set_cons_succ])
          (refine take_skip (i := 10) rfl rfl (by kernel_rfl) (by kernel_rfl) (by kernel_rfl) (fun _ _ _ h => h) rfl (hHeld) ?_; simp only [List.setIfInBounds_toArray, List.set_cons_zero, List.set_cons_succ])
          (refine take_val (i := 11) (v := .bool false) rfl rfl (by kernel_rfl) (by kernel_rfl) (by kernel_rfl) (fun _ _ _ h => h) rfl (by intro wq hq; (try go_split_ands); go_simp; try with_reducible rfl) (hHeld) ?_; simp only [List.setIfInBounds_toArray, List.set_cons_zero, List.set_cons_succ])
          (refine take_val (i := 12) (v := .bool false) rfl rfl (by kernel_rfl) (by kernel_rfl) (by kernel_rfl) (fun _ _ _ h => h) rfl (by intro wq hq; (try go_split_ands); go_simp; try with_reducible rfl) (hHeld) ?_; simp only [List.setIfInBounds_toArray, List.set_cons_zero, List.set_cons_succ])
          (refine take_skip (i := 13) rfl rfl (by kernel_rfl) (by kernel_rfl) (by kernel_rfl) (fun _ _ _ h => h) rfl (hHeld) ?_; simp only [List.setIfInBounds_toArray, List.set_cons_zero, List.set_cons_succ])
          (refine take_skip (i := 14) rfl rfl (by kernel_rfl) (by kernel_rfl) (by kernel_rfl) (fun _ _ _ h => h) rfl (hHeld) ?_; simp only [List.setIfInBounds_toArray, List.set_cons_zero, List.set_cons_succ])
          (refine take_skip (i := 15) rfl rfl (by kernel_rfl) (by kernel_rfl) (by kernel_rfl) (fun _ _ _ h => h) rfl (hHeld) ?_; simp only [List.setIfInBounds_toArray, List.set_cons_zero, List.set_cons_succ])
          (refine take_skip (i := 16) rfl rfl (by kernel_rfl) (by kernel_rfl) (by kernel_rfl) (fun _ _ _ h => h) rfl (hHeld) ?_; simp only [List.setIfInBounds_toArray, List.set_cons_zero, List.set_cons_succ])
          (refine take_skip (i := 17) rfl rfl (by kernel_rfl) (by kernel_rfl) (by kernel_rfl) (fun _ _ _ h => h) rfl (hHeld) ?_; simp only [List.setIfInBounds_toArray, List.set_cons_zero, List.set_cons_succ])
          (refine take_skip (i := 18) rfl rfl (by kernel_rfl) (by kernel_rfl) (by kernel_rfl) (fun _ _ _ h => h) rfl (hHeld) ?_; simp only [List.setIfInBounds_toArray, List.set_cons_zero, List.set_cons_succ])
          (refine take_skip (i := 19) rfl rfl (by kernel_rfl) (by kernel_rfl) (by kernel_rfl) (fun _ _ _ h => h) rfl (hHeld) ?_; simp only [List.setIfInBounds_toArray, List.set_cons_zero, List.set_cons_succ])
          (refine take_skip (i := 20) rfl rfl (by kernel_rfl) (by kernel_rfl) (by kernel_rfl) (fun _ _ _ h => h) rfl (hHeld) ?_; simp only [List.setIfInBounds_toArray, List.set_cons_zero, List.set_cons_succ])
          (refine take_skip (i := 21) rfl rfl (by kernel_rfl) (by kernel_rfl) (by kernel_rfl) (fun _ _ _ h => h) rfl (hHeld) ?_; simp only [List.setIfInBounds_toArray, List.set_cons_zero, List.set_cons_succ])
          (refine take_skip (i := 22) rfl rfl (by kernel_rfl) (by kernel_rfl) (by kernel_rfl) (fun _ _ _ h => h) rfl (hHeld) ?_; simp only [List.setIfInBounds_toArray, List.set_cons_zero, List.set_cons_succ])
          (refine take_skip (i := 23) rfl rfl (by kernel_rfl) (by kernel_rfl) (by kernel_rfl) (fun _ _ _ h => h) rfl (hHeld) ?_; simp only [List.setIfInBounds_toArray, List.set_cons_zero, List.set_cons_succ])
          (refine take_skip (i := 24) rfl rfl (by kernel_rfl) (by kernel_rfl) (by kernel_rfl) (fun _ _ _ h => h) rfl (hHeld) ?_; simp only [List.setIfInBounds_toArray, List.set_cons_zero, List.set_cons_succ])
          (refine take_skip (i := 25) rfl rfl (by kernel_rfl) (by kernel_rfl) (by kernel_rfl) (fun _ _ _ h => h) rfl (hHeld) ?_; simp only [List.setIfInBounds_toArray, List.set_cons_zero, List.set_cons_succ])
          (refine take_skip (i := 26) rfl rfl (by kernel_rfl) (by kernel_rfl) (by kernel_rfl) (fun _ _ _ h => h) rfl (hHeld) ?_; simp only [List.setIfInBounds_toArray, List.set_cons_zero, List.set_cons_succ])
          (refine take_skip (i := 27) rfl rfl (by kernel_rfl) (by kernel_rfl) (by kernel_rfl) (fun _ _ _ h => h) rfl (hHeld) ?_; simp only [List.setIfInBounds_toArray, List.set_cons_zero, List.set_cons_succ])
          (refine take_val (i := 28) (v := .bool false) rfl rfl (by kernel_rfl) (by kernel_rfl) (by kernel_rfl) (fun _ _ _ h => h) rfl (by intro wq hq; (try go_split_ands); go_simp; try with_reducible rfl) (hHeld) ?_; simp only [List.setIfInBounds_toArray, List.set_cons_zero, List.set_cons_succ])
          refine wpAnyH_done (by kernel_rfl) ?_ _
          go_wp2_with fail
          exact ⟨⟨k + 1, by omega, by go_num, by rw [HN.out], HG.out.1, HG.out.2.1, HG.out.2.2.1, HG.out.2.2.2⟩, by simp [intOf]; omega⟩
    · obtain rfl : k = 32 := by omega
      go_wp2_with fail
      go_ret
      exact ⟨ret_int HE.out.symm, hkp⟩

end Go.Proofs.Ytfbpcbjlogdflaa
