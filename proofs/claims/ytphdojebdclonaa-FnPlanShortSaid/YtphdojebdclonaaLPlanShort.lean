/- The law FnPlanShort, walked. No condition. -/
import Derived.Test.YtphdojebdclonaaD18
import Derived.Test.YtphdojebdclonaaA1
import Derived.Test.YtphdojebdclonaaA5
import Derived.Test.YtphdojebdclonaaA6
import Derived.Test.YtphdojebdclonaaRowB
namespace Go.Proofs.Ytphdojebdclonaa
open Go.RowKit

/-- a plan made short leads to the same state, and comes to no state twice; made short again it is the same -/
theorem planShort_all {t : Sp.Task} {p : List Int} (h : 0 ≤ Sp.planRun t t.start p) : Sp.taskOk t = true ∧ (Sp.planShort t p).length ≤ p.length ∧ (Sp.planShort t p).length ≤ 40 ∧ (∀ k, Sp.planRun t t.start ((Sp.planShort t p).take k) = Sp.stAt t (Sp.planShort t p) k ∧ 0 ≤ Sp.stAt t (Sp.planShort t p) k) ∧
    (∀ i j, i < j → j ≤ (Sp.planShort t p).length → Sp.stAt t (Sp.planShort t p) i ≠ Sp.stAt t (Sp.planShort t p) j) ∧ Sp.stAt t (Sp.planShort t p) (Sp.planShort t p).length = Sp.planRun t t.start p ∧ Sp.planShort t (Sp.planShort t p) = Sp.planShort t p ∧ 0 ≤ Sp.planRun t t.start (Sp.planShort t p) := by
  obtain ⟨hok, hl, he, hst⟩ := planRun_parts h
  have e1 := planShort_yes h
  have hlen := till_len t p 41
  have hone := once_till t p 41
  have hend := till_end t p 41
  rw [e1]
  generalize Sp.shortTill t p 41 = x at *
  have hall : ∀ i j, i < j → j ≤ x.length → Sp.stAt t x i ≠ Sp.stAt t x j := fun i j h1 h2 => hone i j (by omega) h1 h2
  have hx0 : 0 ≤ Sp.stAt t x x.length := by rw [hend]; exact hst _
  have hrun : Sp.planRun t t.start x = Sp.stAt t x x.length := by
    have := planRun_take (l := x) hok (by omega) x.length
    rw [List.take_length] at this
    exact this
  have hrx : 0 ≤ Sp.planRun t t.start x := by rw [hrun]; exact hx0
  obtain ⟨_, _, _, hst2⟩ := planRun_parts hrx
  refine ⟨hok, hlen, by omega, fun k => ⟨planRun_take hok (by omega) k, hst2 k⟩, hall, by rw [hend, ← he], ?_, hrx⟩
  rw [planShort_yes hrx]
  exact short_done (m := 0) (Nat.zero_le _) hall

set_option maxHeartbeats 2000000 in
set_option maxRecDepth 100000 in
theorem l_PlanShortFn (A : Option Addr) (n c : Nat) (w : World) (h : BytesV w A n ∧ n ≤ c ∧ c ≤ maxLen) : Calls Try.prog 7 #[.slice A n c] w (RetK (.bool true) w) := by
  by_cases hn : 1048576 < n
  · have hn1 : (1048576 : Int) < (n : Int) := by omega
    go_enter Try.func7, Try.ntmps7
    go_wp2_with fail
    go_ret
    exact ⟨rfl, Kept.refl _⟩
  have hn1 : ¬ (1048576 : Int) < (n : Int) := by omega
  obtain ⟨i0, hi0, hz0, hz1, hz2⟩ := info_parts info_int
  have HI := Lib.hid (And.intro hi0 (And.intro hz0 (And.intro hz1 hz2)))
  clear hi0 hz0 hz1 hz2
  go_enter Try.func7, Try.ntmps7
  go_wp2_with fail
  refine (c_drawPlanShort A n c w h).mono ?_; rintro e w2 ⟨v, rfl, ⟨tv, t, A3, n3, c3, p, rfl, hTV, hL⟩, hk2⟩
  obtain ⟨A1, m1, c1, A2, m2, c2, rfl⟩ := hTV.form
  have hk0 := hk2.alloc (.cells #[.int .i64 t.start, .slice A1 m1 c1, .slice A2 m2 c2] 30)
  have hT := hTV.keep ((Kept.refl w2).alloc (.cells #[.int .i64 t.start, .slice A1 m1 c1, .slice A2 m2 c2] 30))
  replace hL := hL.keep ((Kept.refl w2).alloc (.cells #[.int .i64 t.start, .slice A1 m1 c1, .slice A2 m2 c2] 30))
  have B0 := Blk.new w2 30 #[.int .i64 t.start, .slice A1 m1 c1, .slice A2 m2 c2]
  have HPn := Lib.hid hL.len
  have HPi := Lib.hid hL.2.2.1
  clear hk2 hTV
  obtain ⟨bb, HBb⟩ : ∃ bb, Hid (decide (0 ≤ Sp.planRun t t.start p) = bb) := ⟨_, rfl⟩
  go_wp2_with fail
  refine (c_iPlanShort _ t _ _ _ p _ hT hL).mono ?_; rintro e w3 ⟨v, rfl, ⟨hQ, hSo⟩, hk3⟩
  rw [HBb.out] at hQ hSo
  obtain ⟨A5, c5, rfl, ho5⟩ := hQ
  replace hk0 := hk0.trans hk3
  replace B0 := B0.kept hk3
  replace hT := hT.keep hk3
  replace hL := hL.keep hk3
  clear hk3
  have c0 := B0.cell
  have HSo := Lib.hid hSo
  clear hSo
  go_wp2_with fail
  refine (c_sPlanShort _ t _ _ _ p _ hT hL).mono ?_; rintro e w4 ⟨v, rfl, hQ, hk4⟩
  obtain ⟨A6, c6, rfl, hS⟩ := short_out hQ HPi.out
  rw [HBb.out]
  replace hk0 := hk0.trans hk4
  replace B0 := B0.kept hk4
  replace hT := hT.keep hk4
  replace hL := hL.keep hk4
  replace ho5 := own_keep ho5 hk4
  clear hk4 hQ c0
  obtain ⟨x, HX⟩ : ∃ x, Hid (Sp.planShort t p = x) := ⟨_, rfl⟩
  have HXl : Hid (x.length ≤ 40) := by show _ ≤ _; rw [← HX.out]; exact planShort_len t p
  have hXi : ∀ y ∈ x, Sp.inI y := by
    intro y hy
    rw [← HX.out] at hy
    unfold Sp.planShort at hy
    split at hy
    · exact HPi.out y (till_mem y hy)
    · cases hy
  rw [HX.out] at ho5 hS HSo ⊢
  have hX5 := own_intsB (by have := HXl.out; omega) ho5 hXi
  have HXi := Lib.hid hXi
  clear hXi
  go_wp2_with fail
  refine (c_lsameInts _ _ _ _ _ _ _ _ _ hX5 hS.1 rfl).mono ?_; rintro e w5 ⟨rfl, hk5⟩
  replace hk0 := hk0.trans hk5
  replace B0 := B0.kept hk5
  replace hT := hT.keep hk5
  replace hL := hL.keep hk5
  replace ho5 := own_keep ho5 hk5
  replace hX5 := hX5.keep hk5
  clear hk5 hS
  cases bb with
  | false =>
    have HXe : Hid (x.length = 0) := by
      show _ = _
      have := HBb.out
      rw [← HX.out, planShort_no (by rw [decide_eq_false_iff_not] at this; omega)]; rfl
    rw [HXe.out]
    go_wp2_with fail
    refine (c_alive _).mono ?_; rintro e w6 ⟨rfl, hk6⟩
    go_wp2_with fail
    go_ret
    exact ⟨rfl, hk0.trans hk6⟩
  | true =>
    have hrun : 0 ≤ Sp.planRun t t.start p := by have := HBb.out; rwa [decide_eq_true_iff] at this
    obtain ⟨ht, hle, h40, hst, hne, hend, hag, hrx⟩ := planShort_all hrun
    obtain ⟨Q, c5', heq⟩ := HSo.out rfl
    injection heq with heq
    simp only [Array.mk.injEq, List.cons.injEq, Value.slice.injEq, and_true, true_and] at heq
    obtain ⟨rfl, rfl⟩ := heq
    rw [HX.out] at hle h40 hst hne hend hag hrx
    rw [HPn.out] at hle
    have hnc : x.length ≤ c5 := by obtain ⟨cc, e, hcc⟩ := own_at ho5 rfl; injection e with _ _ e3; omega
    have HSt := Lib.hid hst
    have HNe := Lib.hid hne
    have HEnd := Lib.hid hend
    have HAg := Lib.hid hag
    have HRx : Hid (decide (0 ≤ Sp.planRun t t.start x) = true) := decide_eq_true hrx
    obtain ⟨m, Hm⟩ : ∃ m, Hid (x.length = m) := ⟨_, rfl⟩
    rw [Hm.out] at hle h40 hnc hX5 HEnd ho5 ⊢
    have HOk := Lib.hid ht
    clear hst hne hend hag hrx hrun ht
    go_upto_region 11 with fail
    have hO0 := World.ownsRow_made (base := w5.heap.size) (e := 3) (size := 1) w5 #[] 0 (Nat.le_refl _) (by unfold maxLen; omega) rfl
    have hkM := (Kept.refl w5).alloc (.cells #[] 3)
    obtain ⟨w6, HW6⟩ : ∃ x, Hid (w5.alloc (.cells #[] 3) = x) := ⟨_, rfl⟩
    rw [HW6.out] at hO0 hkM ⊢
    go_wp2_with fail
    go_loopw [10, 9] (fun i o wr => ∃ (k : Nat) (A9 : Option Addr) (c9 : Nat), k ≤ m + 1 ∧ i = .int .i64 (k : Int) ∧ o = .slice A9 k c9 ∧ wr.ownsRow w5.heap.size 3 1 (.slice A9 k c9) k (((List.range k).map (Sp.stAt t x)).map (Value.int .i64)) ∧ Kept w5 wr) (fun i _ _ => m + 1 - (intOf i).toNat)
    case atStart => exact ⟨0, _, _, by omega, rfl, rfl, hO0, hkM⟩
    case round =>
      clear hO0 hkM
      obtain ⟨k, A9, c9, hk, rfl, rfl, hown, hkp⟩ := hrel
      by_cases hlt : k ≤ m
      · have hkm : (k : Int) ≤ (m : Int) := by omega
        have q1 : ¬ c5 < k := by omega
        have hB1 := B0.kept hkp
        go_wp2_with fail
        have hB2 := hB1.kept (Kept.refl wr).drew
        have hkd := hkp.drew
        have hod := own_keep hown (Kept.refl wr).drew
        refine wp_region_held_drew (S := fun w' => w'.cell? ⟨w2.heap.size, 0, none⟩ = some (.int .i64 t.start) ∧ w'.cell? ⟨w2.heap.size, 1, none⟩ = some (.slice A1 m1 c1) ∧ w'.cell? ⟨w2.heap.size, 2, none⟩ = some (.slice A2 m2 c2)) (by kernel_rfl) ⟨hB2.cell 0, hB2.cell 1, hB2.cell 2⟩ (fun hHeld => ?_)
        (refine take_val (i := 0) (v := .agg #[.int .i64 t.start, .slice A1 m1 c1, .slice A2 m2 c2]) rfl rfl (by kernel_rfl) (by kernel_rfl) (by kernel_rfl) (fun _ _ _ h => h) rfl (by intro wq hq; (try go_split_ands); go_simp; try with_reducible rfl) (hHeld) ?_; try simp only [List.setIfInBounds_toArray, List.set_cons_zero, List.set_cons_succ])
        (refine take_val (i := 1) (v := .pointer (some ⟨w2.heap.size, 0, none⟩)) rfl rfl (by kernel_rfl) (by kernel_rfl) (by kernel_rfl) (fun _ _ _ h => h) rfl (by intro wq hq; (try go_split_ands); go_simp; try with_reducible rfl) (hHeld) ?_; try simp only [List.setIfInBounds_toArray, List.set_cons_zero, List.set_cons_succ])
        (refine take_val (i := 2) (v := .int .i64 t.start) rfl rfl (by kernel_rfl) (by kernel_rfl) (by kernel_rfl) (fun _ _ _ h => h) rfl (by intro wq hq; (try go_split_ands); go_simp; try with_reducible rfl) (hHeld) ?_; try simp only [List.setIfInBounds_toArray, List.set_cons_zero, List.set_cons_succ])
        (refine take_val (i := 3) (v := .slice (some ⟨Q, 0, none⟩) m c5) rfl rfl (by kernel_rfl) (by kernel_rfl) (by kernel_rfl) (fun _ _ _ h => h) rfl (by intro wq hq; (try go_split_ands); go_simp; try with_reducible rfl) (hHeld) ?_; try simp only [List.setIfInBounds_toArray, List.set_cons_zero, List.set_cons_succ])
        (refine take_val (i := 4) (v := .int .i64 (k : Int)) rfl rfl (by kernel_rfl) (by kernel_rfl) (by kernel_rfl) (fun _ _ _ h => h) rfl (by intro wq hq; (try go_split_ands); go_simp; try with_reducible rfl) (hHeld) ?_; try simp only [List.setIfInBounds_toArray, List.set_cons_zero, List.set_cons_succ])
        (refine take_val (i := 5) (v := .slice (some ⟨Q, 0, none⟩) k c5) rfl rfl (by kernel_rfl) (by kernel_rfl) (by kernel_rfl) (fun _ _ _ h => h) rfl (by intro wq hq; (try go_split_ands); go_simp; try with_reducible rfl) (hHeld) ?_; try simp only [List.setIfInBounds_toArray, List.set_cons_zero, List.set_cons_succ])
        clear q1
        have hIk := own_row_ints (l := x.take k) (by have := own_cut (own_keep ho5 hkd) hlt; rw [← List.map_take] at this; exact this) (by omega) (fun y hy => HXi.out y (List.mem_of_mem_take hy))
        (refine wpAnyH_ready (rs := [6]) (by kernel_rfl) (by simp) ?_; refine AllReadyH.cons rfl (fun K hK => ?_) AllReadyH.nil; go_simp)
        refine (c_iPlanRun _ t _ _ _ _ _ _ (hT.keep hkd) hIk).mono ?_; rintro e w7 ⟨rfl, hk7⟩
        rw [(HSt.out k).1]
        have hB3 := hB2.kept hk7
        have hkp7 := hkd.trans hk7
        have hown7 := own_keep hod hk7
        clear hk7 hod hkd hB2 hB1 hown hkp hHeld hIk
        have hS3 : w7.cell? ⟨w2.heap.size, 0, none⟩ = some (.int .i64 t.start) ∧ w7.cell? ⟨w2.heap.size, 1, none⟩ = some (.slice A1 m1 c1) ∧ w7.cell? ⟨w2.heap.size, 2, none⟩ = some (.slice A2 m2 c2) := ⟨hB3.cell 0, hB3.cell 1, hB3.cell 2⟩
        (refine hK.out _ _ (hS3) (fun _ => ?_); clear hK K; try simp only [Act.put, List.setIfInBounds_toArray, List.set_cons_zero, List.set_cons_succ])
        have HNin : Hid (decide (Sp.stAt t x k ∈ (List.range k).map (Sp.stAt t x)) = false) := decide_eq_false fun hm => by
          rw [List.mem_map] at hm
          obtain ⟨i, hi, he⟩ := hm
          exact HNe.out i k (List.mem_range.1 hi) (by rw [Hm.out]; exact hlt) he
        have hy0 := (HSt.out k).2
        have HRs : Hid (((List.range (k + 1)).map (Sp.stAt t x)).map (Value.int .i64) = ((List.range k).map (Sp.stAt t x)).map (Value.int .i64) ++ [.int .i64 (Sp.stAt t x k)]) := by show _ = _; rw [List.range_succ, List.map_append, List.map_append]; rfl
        have hI7 := own_intsB (by omega) hown7 (fun y hy => by
          rw [List.mem_map] at hy
          obtain ⟨i, _, rfl⟩ := hy
          have h1 := (HSt.out i).2
          have h2 := stAt_bd HOk.out x i
          unfold Sp.inI; omega)
        obtain ⟨y, HY⟩ : ∃ y, Hid (Sp.stAt t x k = y) := ⟨_, rfl⟩
        rw [HY.out] at HNin HRs hy0 ⊢
        have hy1 : ¬ y < 0 := by omega
        have hz7 := hkp7.size
        (refine take_val (i := 7) (v := .int .i64 y) rfl rfl (by kernel_rfl) (by kernel_rfl) (by kernel_rfl) (fun _ _ _ h => h) rfl (by intro wq hq; (try go_split_ands); go_simp; try with_reducible rfl) (hS3) ?_; try simp only [List.setIfInBounds_toArray, List.set_cons_zero, List.set_cons_succ])
        refine wpAnyH_done (by kernel_rfl) ?_ _
        clear hS3
        go_wp2_with fail
        refine (c_lhasInt _ _ _ _ y _ hI7).mono ?_; rintro e w8 ⟨rfl, rfl⟩
        rw [HNin.out]
        go_wp2_with (first | (at_builtin; refine wpList_append_own _ rfl (.tmp 72) (.tmp 74) 22 rfl (w5.heap.size) 3 i0 (.int .i64 0) 1 8 Try.underlying22 HI.out.1 HI.out.2.1 HI.out.2.2.1 HI.out.2.2.2 rfl (by decide) (.slice A9 k c9) k _ rfl (hown7.alloc _) ⟨w7.heap.size, 0, none⟩ 1 1 [.int .i64 (y)] rfl rfl (one_new _ _ _) (by simp [Value.oneCell']) (by unfold maxLen; omega) (by omega) (by simp; omega) ?_; intro v' wapp hown2 hg2 _))
        obtain ⟨A10, c10, rfl⟩ := own_form hown2
        rw [← HRs.out] at hown2
        have hkp8 : Kept w5 wapp := (hkp7.alloc _).grown hg2 (fun k e => (hown7.lt k e).1)
        exact ⟨⟨k + 1, A10, c10, by omega, by go_num, rfl, hown2, hkp8⟩, by simp [intOf]; omega⟩
      · obtain rfl : k = m + 1 := by omega
        obtain ⟨_, P9, rfl, _, hgl9, _⟩ := own_some hown (by omega)
        have hnm : ¬ (((m + 1 : Nat) : Int)) ≤ (m : Int) := by omega
        have hB1 := B0.kept hkp
        have c0 := hB1.cell
        have hXp := hX5.keep hkp
        clear hlt hk
        go_wp2_with fail
        refine (c_iPlanShort _ t _ _ _ x _ (hT.keep hkp) hXp).mono ?_; rintro e w7 ⟨v, rfl, ⟨hQ2, _⟩, hk7⟩
        obtain ⟨A11, c11, rfl, hG3⟩ := short_out hQ2 HXi.out
        rw [HRx.out]
        have hkp7 := hkp.trans hk7
        have hown7 := own_keep hown hk7
        have hB7 := hB1.kept hk7
        clear hQ2 hk7 hXp hB1 hown hkp c0
        have cy := hown7.cells (g := P9) rfl m (.int .i64 (Sp.stAt t x m)) (by rw [List.getElem?_map, List.getElem?_map, List.getElem?_range (by omega)]; rfl)
        have ead : ((⟨P9, 0, none⟩ : Addr).add m) = ⟨P9, m, none⟩ := by
          unfold Addr.add
          split
          · rename_i h0; subst h0; rfl
          · simp
        rw [ead] at cy
        have HAgl : Hid ((Sp.planShort t x).length = m) := by show _ = _; rw [HAg.out, Hm.out]
        rw [HAg.out] at hG3
        have hGI : Ints w7 A11 m x := by have := hG3.1; rw [Hm.out] at this; exact this
        rw [HAgl.out]
        clear hG3
        rw [HEnd.out] at cy
        obtain ⟨y, HY⟩ : ∃ y, Hid (Sp.planRun t t.start p = y) := ⟨_, rfl⟩
        rw [HY.out] at cy
        go_wp2_with fail
        have hkd := hkp7.drew
        have hBd := hB7.kept (Kept.refl w7).drew
        have cyd : w7.drew.cell? ⟨P9, m, none⟩ = some (.int .i64 y) := cy
        have q1 : ((m : Int)) ≤ (n3 : Int) := by omega
        have hw2 : IntKind.i64.wrap (m : Int) = (m : Int) := by rw [IntKind.wrap_i64]; omega
        refine wp_region_held_drew (S := fun w' => w'.cell? ⟨w2.heap.size, 0, none⟩ = some (.int .i64 t.start) ∧ w'.cell? ⟨w2.heap.size, 1, none⟩ = some (.slice A1 m1 c1) ∧ w'.cell? ⟨w2.heap.size, 2, none⟩ = some (.slice A2 m2 c2) ∧ w'.cell? ⟨P9, m, none⟩ = some (.int .i64 y)) (by kernel_rfl) ⟨hBd.cell 0, hBd.cell 1, hBd.cell 2, cyd⟩ (fun hHeld => ?_)
        (refine take_val (i := 0) (v := .slice (some ⟨Q, 0, none⟩) m c5) rfl rfl (by kernel_rfl) (by kernel_rfl) (by kernel_rfl) (fun _ _ _ h => h) rfl (by intro wq hq; (try go_split_ands); go_simp; try with_reducible rfl) (hHeld) ?_; try simp only [List.setIfInBounds_toArray, List.set_cons_zero, List.set_cons_succ])
        (refine take_val (i := 1) (v := .int .i64 (m : Int)) rfl rfl (by kernel_rfl) (by kernel_rfl) (by kernel_rfl) (fun _ _ _ h => h) rfl (by intro wq hq; (try go_split_ands); go_simp; try with_reducible rfl) (hHeld) ?_; try simp only [List.setIfInBounds_toArray, List.set_cons_zero, List.set_cons_succ])
        (refine take_val (i := 2) (v := .slice A3 n3 c3) rfl rfl (by kernel_rfl) (by kernel_rfl) (by kernel_rfl) (fun _ _ _ h => h) rfl (by intro wq hq; (try go_split_ands); go_simp; try with_reducible rfl) (hHeld) ?_; try simp only [List.setIfInBounds_toArray, List.set_cons_zero, List.set_cons_succ])
        (refine take_val (i := 3) (v := .int .i64 (n3 : Int)) rfl rfl (by kernel_rfl) (by kernel_rfl) (by kernel_rfl) (fun _ _ _ h => h) rfl (by intro wq hq; (try go_split_ands); go_simp; try with_reducible rfl) (hHeld) ?_; try simp only [List.setIfInBounds_toArray, List.set_cons_zero, List.set_cons_succ])
        (refine take_val (i := 4) (v := .bool true) rfl rfl (by kernel_rfl) (by kernel_rfl) (by kernel_rfl) (fun _ _ _ h => h) rfl (by intro wq hq; (try go_split_ands); go_simp; try with_reducible rfl) (hHeld) ?_; try simp only [List.setIfInBounds_toArray, List.set_cons_zero, List.set_cons_succ])
        (refine take_val (i := 5) (v := .bool true) rfl rfl (by kernel_rfl) (by kernel_rfl) (by kernel_rfl) (fun _ _ _ h => h) rfl (by intro wq hq; (try go_split_ands); go_simp; try with_reducible rfl) (hHeld) ?_; try simp only [List.setIfInBounds_toArray, List.set_cons_zero, List.set_cons_succ])
        (refine take_val (i := 6) (v := .slice (some ⟨P9, 0, none⟩) (m + 1) c9) rfl rfl (by kernel_rfl) (by kernel_rfl) (by kernel_rfl) (fun _ _ _ h => h) rfl (by intro wq hq; (try go_split_ands); go_simp; try with_reducible rfl) (hHeld) ?_; try simp only [List.setIfInBounds_toArray, List.set_cons_zero, List.set_cons_succ])
        (refine take_val (i := 7) (v := .slice (some ⟨P9, 0, none⟩) (m + 1) c9) rfl rfl (by kernel_rfl) (by kernel_rfl) (by kernel_rfl) (fun _ _ _ h => h) rfl (by intro wq hq; (try go_split_ands); go_simp; try with_reducible rfl) (hHeld) ?_; try simp only [List.setIfInBounds_toArray, List.set_cons_zero, List.set_cons_succ])
        (refine take_val (i := 8) (v := .int .i64 ((m : Int) + 1)) rfl rfl (by kernel_rfl) (by kernel_rfl) (by kernel_rfl) (fun _ _ _ h => h) rfl (by intro wq hq; (try go_split_ands); go_simp; try with_reducible rfl) (hHeld) ?_; try simp only [List.setIfInBounds_toArray, List.set_cons_zero, List.set_cons_succ])
        (refine take_val (i := 9) (v := .int .i64 (m : Int)) rfl rfl (by kernel_rfl) (by kernel_rfl) (by kernel_rfl) (fun _ _ _ h => h) rfl (by intro wq hq; (try go_split_ands); go_simp; try with_reducible rfl) (hHeld) ?_; try simp only [List.setIfInBounds_toArray, List.set_cons_zero, List.set_cons_succ])
        (refine take_val (i := 10) (v := .pointer (some ⟨P9, m, none⟩)) rfl rfl (by kernel_rfl) (by kernel_rfl) (by kernel_rfl) (fun _ _ _ h => h) rfl (by intro wq hq; (try go_split_ands); go_simp; try with_reducible rfl) (hHeld) ?_; try simp only [List.setIfInBounds_toArray, List.set_cons_zero, List.set_cons_succ])
        (refine take_val (i := 11) (v := .int .i64 y) rfl rfl (by kernel_rfl) (by kernel_rfl) (by kernel_rfl) (fun _ _ _ h => h) rfl (by intro wq hq; (try go_split_ands); go_simp; try with_reducible rfl) (hHeld) ?_; try simp only [List.setIfInBounds_toArray, List.set_cons_zero, List.set_cons_succ])
        (refine take_val (i := 12) (v := .agg #[.int .i64 t.start, .slice A1 m1 c1, .slice A2 m2 c2]) rfl rfl (by kernel_rfl) (by kernel_rfl) (by kernel_rfl) (fun _ _ _ h => h) rfl (by intro wq hq; (try go_split_ands); go_simp; try with_reducible rfl) (hHeld) ?_; try simp only [List.setIfInBounds_toArray, List.set_cons_zero, List.set_cons_succ])
        (refine take_val (i := 13) (v := .pointer (some ⟨w2.heap.size, 0, none⟩)) rfl rfl (by kernel_rfl) (by kernel_rfl) (by kernel_rfl) (fun _ _ _ h => h) rfl (by intro wq hq; (try go_split_ands); go_simp; try with_reducible rfl) (hHeld) ?_; try simp only [List.setIfInBounds_toArray, List.set_cons_zero, List.set_cons_succ])
        (refine take_val (i := 14) (v := .int .i64 t.start) rfl rfl (by kernel_rfl) (by kernel_rfl) (by kernel_rfl) (fun _ _ _ h => h) rfl (by intro wq hq; (try go_split_ands); go_simp; try with_reducible rfl) (hHeld) ?_; try simp only [List.setIfInBounds_toArray, List.set_cons_zero, List.set_cons_succ])
        (refine take_val (i := 15) (v := .slice A3 n3 c3) rfl rfl (by kernel_rfl) (by kernel_rfl) (by kernel_rfl) (fun _ _ _ h => h) rfl (by intro wq hq; (try go_split_ands); go_simp; try with_reducible rfl) (hHeld) ?_; try simp only [List.setIfInBounds_toArray, List.set_cons_zero, List.set_cons_succ])
        (refine wpAnyH_ready (rs := [16]) (by kernel_rfl) (by simp) ?_; refine AllReadyH.cons rfl (fun K hK => ?_) AllReadyH.nil; go_simp)
        refine (c_iPlanRun _ t _ _ _ _ p _ (hT.keep hkd) (hL.keep hkd)).mono ?_; rintro e w9 ⟨rfl, hk9⟩
        rw [HY.out]
        have hBe := hBd.kept hk9
        have hS9 : w9.cell? ⟨w2.heap.size, 0, none⟩ = some (.int .i64 t.start) ∧ w9.cell? ⟨w2.heap.size, 1, none⟩ = some (.slice A1 m1 c1) ∧ w9.cell? ⟨w2.heap.size, 2, none⟩ = some (.slice A2 m2 c2) ∧ w9.cell? ⟨P9, m, none⟩ = some (.int .i64 y) := ⟨hBe.cell 0, hBe.cell 1, hBe.cell 2, hk9.at_ cyd⟩
        clear q1
        (refine hK.out _ _ (hS9) (fun _ => ?_); clear hK K; try simp only [Act.put, List.setIfInBounds_toArray, List.set_cons_zero, List.set_cons_succ])
        (refine take_val (i := 17) (v := .bool true) rfl rfl (by kernel_rfl) (by kernel_rfl) (by kernel_rfl) (fun _ _ _ h => h) rfl (by intro wq hq; (try go_split_ands); go_simp; try with_reducible rfl) (hS9) ?_; try simp only [List.setIfInBounds_toArray, List.set_cons_zero, List.set_cons_succ])
        (refine take_val (i := 18) (v := .bool true) rfl rfl (by kernel_rfl) (by kernel_rfl) (by kernel_rfl) (fun _ _ _ h => h) rfl (by intro wq hq; (try go_split_ands); go_simp; try with_reducible rfl) (hS9) ?_; try simp only [List.setIfInBounds_toArray, List.set_cons_zero, List.set_cons_succ])
        (refine take_val (i := 19) (v := .bool true) rfl rfl (by kernel_rfl) (by kernel_rfl) (by kernel_rfl) (fun _ _ _ h => h) rfl (by intro wq hq; (try go_split_ands); go_simp; try with_reducible rfl) (hS9) ?_; try simp only [List.setIfInBounds_toArray, List.set_cons_zero, List.set_cons_succ])
        (refine take_val (i := 20) (v := .slice A11 m c11) rfl rfl (by kernel_rfl) (by kernel_rfl) (by kernel_rfl) (fun _ _ _ h => h) rfl (by intro wq hq; (try go_split_ands); go_simp; try with_reducible rfl) (hS9) ?_; try simp only [List.setIfInBounds_toArray, List.set_cons_zero, List.set_cons_succ])
        (refine take_val (i := 21) (v := .slice (some ⟨Q, 0, none⟩) m c5) rfl rfl (by kernel_rfl) (by kernel_rfl) (by kernel_rfl) (fun _ _ _ h => h) rfl (by intro wq hq; (try go_split_ands); go_simp; try with_reducible rfl) (hS9) ?_; try simp only [List.setIfInBounds_toArray, List.set_cons_zero, List.set_cons_succ])
        (refine wpAnyH_ready (rs := [22]) (by kernel_rfl) (by simp) ?_; refine AllReadyH.cons rfl (fun K hK => ?_) AllReadyH.nil; go_simp)
        refine (c_lsameInts _ _ _ _ _ _ _ _ _ ((hGI.keep (Kept.refl w7).drew).keep hk9) ((hX5.keep hkd).keep hk9) rfl).mono ?_; rintro e wa ⟨rfl, hka⟩
        have hBf := hBe.kept hka
        have hSa : wa.cell? ⟨w2.heap.size, 0, none⟩ = some (.int .i64 t.start) ∧ wa.cell? ⟨w2.heap.size, 1, none⟩ = some (.slice A1 m1 c1) ∧ wa.cell? ⟨w2.heap.size, 2, none⟩ = some (.slice A2 m2 c2) ∧ wa.cell? ⟨P9, m, none⟩ = some (.int .i64 y) := ⟨hBf.cell 0, hBf.cell 1, hBf.cell 2, hka.at_ (hk9.at_ cyd)⟩
        (refine hK.out _ _ (hSa) (fun _ => ?_); clear hK K; try simp only [Act.put, List.setIfInBounds_toArray, List.set_cons_zero, List.set_cons_succ])
        (refine take_val (i := 23) (v := .bool true) rfl rfl (by kernel_rfl) (by kernel_rfl) (by kernel_rfl) (fun _ _ _ h => h) rfl (by intro wq hq; (try go_split_ands); go_simp; try with_reducible rfl) (hSa) ?_; try simp only [List.setIfInBounds_toArray, List.set_cons_zero, List.set_cons_succ])
        (refine take_val (i := 24) (v := .bool true) rfl rfl (by kernel_rfl) (by kernel_rfl) (by kernel_rfl) (fun _ _ _ h => h) rfl (by intro wq hq; (try go_split_ands); go_simp; try with_reducible rfl) (hSa) ?_; try simp only [List.setIfInBounds_toArray, List.set_cons_zero, List.set_cons_succ])
        refine wpAnyH_done (by kernel_rfl) ?_ _
        clear hSa hS9 hHeld
        go_wp2_with fail
        go_ret
        exact ⟨rfl, ((hk0.trans hkd).trans hk9).trans hka⟩

end Go.Proofs.Ytphdojebdclonaa
