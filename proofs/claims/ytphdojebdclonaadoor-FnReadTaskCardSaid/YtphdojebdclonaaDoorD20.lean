/- The draw of a text of a task. No condition. -/
import Derived.Test.YtphdojebdclonaaDoorT27
import Derived.Test.YtphdojebdclonaaDoorD9
namespace Go.Proofs.YtphdojebdclonaaDoor
set_option linter.unusedSimpArgs false
set_option linter.unusedVariables false
open Go.RowKit

/-- a text that was drawn -/
def DrawnS (v : Value) (_w : World) : Prop := ∃ s : List UInt8, v = .string ⟨s.toArray⟩ ∧ s.length ≤ 10000
/-- what stands in place of a sign -/
def Sp.opt6 (x : Nat) : List UInt8 := [[], [97], [59], [58], [45], [62]].getD x []
theorem opt6_len {x : Nat} (h : x < 6) : (Sp.opt6 x).length ≤ 1 := by
  rcases (by omega : x = 0 ∨ x = 1 ∨ x = 2 ∨ x = 3 ∨ x = 4 ∨ x = 5) with rfl | rfl | rfl | rfl | rfl | rfl <;> decide
theorem opt6_cell {w : World} {G x : Nat} (h : Blk w G 9 #[.string ⟨#[]⟩, .string ⟨#[97]⟩, .string ⟨#[59]⟩, .string ⟨#[58]⟩, .string ⟨#[45]⟩, .string ⟨#[62]⟩]) (hx : x < 6) : w.cell? ⟨G, x, none⟩ = some (.string ⟨(Sp.opt6 x).toArray⟩) := by
  rw [h.cell]
  rcases (by omega : x = 0 ∨ x = 1 ∨ x = 2 ∨ x = 3 ∨ x = 4 ∨ x = 5) with rfl | rfl | rfl | rfl | rfl | rfl <;> rfl

set_option maxHeartbeats 4000000 in
set_option maxRecDepth 100000 in
theorem c_drawReadTask (A : Option Addr) (n c : Nat) (w : World) (h : BytesV w A n ∧ n ≤ c ∧ c ≤ maxLen) : Calls Tryd.prog 36 #[.slice A n c] w (RetS DrawnS w) := by
  go_enter Tryd.func36, Tryd.ntmps36
  go_wp2_with fail
  refine (c_l20Open A n c _ h.1 h.2.1 h.2.2).mono ?_; rintro e w2 ⟨v, rfl, ⟨R, rfl, hRge, hR⟩, hk2⟩
  have hk0 := hk2
  go_wp2_with fail
  refine (c_l20Task R 0 0 _ hR (by omega) (by omega) (by omega)).mono ?_; rintro e w3 ⟨v, p3, rfl, hR3, hp1, hp2, hB, hTQ⟩
  obtain ⟨t, hTV, _⟩ := hTQ.task
  obtain ⟨A1, n1, c1, A2, n2, c2, rfl⟩ := hTV.form
  replace hk0 := hB.kept hk0 (by omega)
  clear hB hR hk2 hTQ
  go_wp2_with fail
  refine (c_sTaskText _ t _ hTV).mono ?_; rintro e w4 ⟨rfl, hk4⟩
  obtain ⟨s, HS⟩ : ∃ s, Hid (Sp.taskText t = s) := ⟨_, rfl⟩
  rw [HS.out]
  have hsl : s.length ≤ 2000 := by rw [← HS.out]; exact taskText_len t
  have hR4 := hR3.keep hk4
  replace hk0 := hk0.trans hk4
  clear hk4 hTV hR3
  go_wp2_with fail
  refine (c_pick R 3 p3 _ hR4 (by omega) (by omega)).mono ?_; rintro e w5 ⟨v, p5, rfl, hR5, hp3, hp4, hb5, x0, rfl, hx00, hx01⟩
  replace hk0 := hb5.kept hk0 (by omega)
  clear hb5 hR4
  by_cases hx : x0 = 0
  · subst hx
    by_cases hl : 0 < s.length
    · have hli : (0 : Int) < (s.length : Int) := by omega
      go_wp2_with fail
      refine (c_pick R (s.length : Int) p5 _ hR5 (by omega) (by omega)).mono ?_; rintro e w6 ⟨v, p6, rfl, hR6, hp5, hp6, hb6, k0, rfl, hk00, hk01⟩
      replace hk0 := hb6.kept hk0 (by omega)
      replace hk01 := hk01 (by omega)
      obtain ⟨k, rfl⟩ := Int.eq_ofNat_of_zero_le hk00
      have hkl : k < s.length := by omega
      obtain ⟨a, HA⟩ : ∃ a, Hid (s.take k = a) := ⟨_, rfl⟩
      obtain ⟨z, HZ⟩ : ∃ z, Hid (s.drop (k + 1) = z) := ⟨_, rfl⟩
      have he1 : (⟨s.toArray⟩ : ByteArray).extract 0 k = ⟨a.toArray⟩ := by rw [ext_take, ← HA.out]; simp
      have he2 : (⟨s.toArray⟩ : ByteArray).extract (k + 1) s.length = ⟨z.toArray⟩ := by
        rw [ext_take, ← HZ.out, List.take_of_length_le (by rw [List.length_drop]; omega)]
      have hal : a.length ≤ 2000 := by rw [← HA.out, List.length_take]; omega
      have hzl : z.length ≤ 2000 := by rw [← HZ.out, List.length_drop]; omega
      have hw1 : IntKind.i64.wrap ((k : Int) + 1) = ((k + 1 : Nat) : Int) := by rw [IntKind.wrap_i64]; omega
      have hsz := hk0.size
      clear hb6 hR5
      have hkd := hk0.drew
      have hRd := hR6.keep (Kept.refl w6).drew
      go_wp2_with fail
      refine wp_region_held_drew (S := fun _ => True) (by kernel_rfl) trivial (fun hHeld => ?_)
      obtain ⟨W0, HW0⟩ : ∃ x, Hid (w6.drew = x) := ⟨_, rfl⟩
      rw [HW0.out] at hkd hRd
      rw [HW0.out]
      clear hHeld
      (refine take_val (i := 0) (v := .string ⟨s.toArray⟩) rfl rfl (by kernel_rfl) (by kernel_rfl) (by kernel_rfl) (fun _ _ _ h => h) rfl (by intro wq hq; (try go_split_ands); go_simp; (try with_reducible rfl); (try omega)) (trivial) ?_; try simp only [List.setIfInBounds_toArray, List.set_cons_zero, List.set_cons_succ])
      (refine take_val (i := 1) (v := .int .i64 (k : Int)) rfl rfl (by kernel_rfl) (by kernel_rfl) (by kernel_rfl) (fun _ _ _ h => h) rfl (by intro wq hq; (try go_split_ands); go_simp; try with_reducible rfl) (trivial) ?_; try simp only [List.setIfInBounds_toArray, List.set_cons_zero, List.set_cons_succ])
      (refine take_val (i := 2) (v := .string ⟨a.toArray⟩) rfl rfl (by kernel_rfl) (by kernel_rfl) (by kernel_rfl) (fun _ _ _ h => h) rfl (by intro wq hq; (try go_split_ands); go_simp; (try with_reducible rfl); (try omega)) (trivial) ?_; try simp only [List.setIfInBounds_toArray, List.set_cons_zero, List.set_cons_succ])
      (refine take_val (i := 4) (v := .pointer (some ⟨R, 0, none⟩)) rfl rfl (by kernel_rfl) (by kernel_rfl) (by kernel_rfl) (fun _ _ _ h => h) rfl (by intro wq hq; (try go_split_ands); go_simp; try with_reducible rfl) (trivial) ?_; try simp only [List.setIfInBounds_toArray, List.set_cons_zero, List.set_cons_succ])
      (refine take_val (i := 9) (v := .string ⟨s.toArray⟩) rfl rfl (by kernel_rfl) (by kernel_rfl) (by kernel_rfl) (fun _ _ _ h => h) rfl (by intro wq hq; (try go_split_ands); go_simp; (try with_reducible rfl); (try omega)) (trivial) ?_; try simp only [List.setIfInBounds_toArray, List.set_cons_zero, List.set_cons_succ])
      (refine take_val (i := 10) (v := .int .i64 (k : Int)) rfl rfl (by kernel_rfl) (by kernel_rfl) (by kernel_rfl) (fun _ _ _ h => h) rfl (by intro wq hq; (try go_split_ands); go_simp; try with_reducible rfl) (trivial) ?_; try simp only [List.setIfInBounds_toArray, List.set_cons_zero, List.set_cons_succ])
      (refine take_val (i := 11) (v := .int .i64 ((k + 1 : Nat) : Int)) rfl rfl (by kernel_rfl) (by kernel_rfl) (by kernel_rfl) (fun _ _ _ h => h) rfl (by intro wq hq; (try go_split_ands); go_simp; try with_reducible rfl) (trivial) ?_; try simp only [List.setIfInBounds_toArray, List.set_cons_zero, List.set_cons_succ])
      (refine take_val (i := 12) (v := .string ⟨z.toArray⟩) rfl rfl (by kernel_rfl) (by kernel_rfl) (by kernel_rfl) (fun _ _ _ h => h) rfl (by intro wq hq; (try go_split_ands); go_simp; (try with_reducible rfl); (try omega)) (trivial) ?_; try simp only [List.setIfInBounds_toArray, List.set_cons_zero, List.set_cons_succ])
      refine wpAnyH_ready (rs := [3, 5]) (by kernel_rfl) (by simp) ?_
      refine AllReadyH.cons rfl (fun K hK => ?_) (AllReadyH.cons rfl (fun K hK => ?_) AllReadyH.nil)
      · skip
        go_simp
        have BM := Blk.new W0 9 #[.string ⟨#[]⟩, .string ⟨#[97]⟩, .string ⟨#[59]⟩, .string ⟨#[58]⟩, .string ⟨#[45]⟩, .string ⟨#[62]⟩]
        have hlM := (Kept.refl W0).alloc (.cells #[.string ⟨#[]⟩, .string ⟨#[97]⟩, .string ⟨#[59]⟩, .string ⟨#[58]⟩, .string ⟨#[45]⟩, .string ⟨#[62]⟩] 9)
        have hRM := hRd.keep hlM
        have hkM := hkd.trans hlM
        (refine hK.out _ _ (trivial) (fun _ => ?_); clear hK K; try simp only [Act.put, List.setIfInBounds_toArray, List.set_cons_zero, List.set_cons_succ])
        obtain ⟨G, HG⟩ : ∃ x, Hid (W0.heap.size = x) := ⟨_, rfl⟩
        obtain ⟨W1, HW1⟩ : ∃ x, Hid (W0.alloc (.cells #[.string ⟨#[]⟩, .string ⟨#[97]⟩, .string ⟨#[59]⟩, .string ⟨#[58]⟩, .string ⟨#[45]⟩, .string ⟨#[62]⟩] 9) = x) := ⟨_, rfl⟩
        rw [HW1.out] at BM hRM hkM
        rw [HG.out] at BM
        rw [HG.out, HW1.out]
        have hGw : w.heap.size ≤ G := by have := hkd.size; have := HG.out; omega
        have hRG : R < G := by have := hRd.lt; have := HG.out; omega
        clear hlM
        (refine wpAnyH_ready (rs := [5]) (by kernel_rfl) (by simp) ?_; refine AllReadyH.cons rfl (fun K hK => ?_) AllReadyH.nil; go_simp)
        refine (c_pick R 6 p6 _ hRM (by omega) (by omega)).mono ?_; rintro e W2 ⟨v, p7, rfl, hR7, hp7, hp8, hb7, xx, rfl, hxx0, hxx1⟩
        replace hxx1 := hxx1 (by omega)
        obtain ⟨x, rfl⟩ := Int.eq_ofNat_of_zero_le hxx0
        have hx6 : x < 6 := by omega
        have BM2 := hb7.blk BM (.inr (by omega))
        have hkEnd := hb7.kept hkM (by omega)
        obtain ⟨uu, HUU⟩ : ∃ u, Hid (Sp.opt6 x = u) := ⟨_, rfl⟩
        have hul : uu.length ≤ 1 := by rw [← HUU.out]; exact opt6_len hx6
        have hSS0 := opt6_cell BM2 hx6
        rw [HUU.out] at hSS0
        have hadd1 : (⟨a.toArray⟩ : ByteArray) ++ ⟨uu.toArray⟩ = ⟨(a ++ uu).toArray⟩ := str_add a uu
        have hadd2 : (⟨(a ++ uu).toArray⟩ : ByteArray) ++ ⟨z.toArray⟩ = ⟨(a ++ uu ++ z).toArray⟩ := str_add (a ++ uu) z
        (refine hK.out _ _ (trivial) (fun _ => ?_); clear hK K; try simp only [Act.put, List.setIfInBounds_toArray, List.set_cons_zero, List.set_cons_succ])
        refine held_more (S' := fun w' => w'.cell? ⟨G, x, none⟩ = some (.string ⟨uu.toArray⟩)) (fun _ _ => trivial) _ _ _ _ ?_
        have hSS : W2.cell? ⟨G, x, none⟩ = some (.string ⟨uu.toArray⟩) := hSS0
        clear hSS0 BM BM2 hRM hR7 hb7
        (refine take_val (i := 6) (v := .pointer (some ⟨G, x, none⟩)) rfl rfl (by kernel_rfl) (by kernel_rfl) (by kernel_rfl) (fun _ _ _ h => h) rfl (by intro wq hq; (try go_split_ands); go_simp; try with_reducible rfl) (hSS) ?_; try simp only [List.setIfInBounds_toArray, List.set_cons_zero, List.set_cons_succ])
        (refine take_val (i := 7) (v := .string ⟨uu.toArray⟩) rfl rfl (by kernel_rfl) (by kernel_rfl) (by kernel_rfl) (fun _ _ _ h => h) rfl (by intro wq hq; (try go_split_ands); go_simp; (try with_reducible rfl); (try omega)) (hSS) ?_; try simp only [List.setIfInBounds_toArray, List.set_cons_zero, List.set_cons_succ])
        (refine take_val (i := 8) (v := .string ⟨(a ++ uu).toArray⟩) rfl rfl (by kernel_rfl) (by kernel_rfl) (by kernel_rfl) (fun _ _ _ h => h) rfl (by intro wq hq; (try go_split_ands); go_simp; (try with_reducible rfl); (try omega)) (hSS) ?_; try simp only [List.setIfInBounds_toArray, List.set_cons_zero, List.set_cons_succ])
        (refine take_val (i := 13) (v := .string ⟨(a ++ uu ++ z).toArray⟩) rfl rfl (by kernel_rfl) (by kernel_rfl) (by kernel_rfl) (fun _ _ _ h => h) rfl (by intro wq hq; (try go_split_ands); go_simp; (try with_reducible rfl); (try omega)) (hSS) ?_; try simp only [List.setIfInBounds_toArray, List.set_cons_zero, List.set_cons_succ])
        (refine take_val (i := 14) (v := .string ⟨(a ++ uu ++ z).toArray⟩) rfl rfl (by kernel_rfl) (by kernel_rfl) (by kernel_rfl) (fun _ _ _ h => h) rfl (by intro wq hq; (try go_split_ands); go_simp; (try with_reducible rfl); (try omega)) (hSS) ?_; try simp only [List.setIfInBounds_toArray, List.set_cons_zero, List.set_cons_succ])
        refine wpAnyH_done (by kernel_rfl) ?_ _
        go_wp2_with fail
        go_ret
        exact ⟨_, rfl, ⟨a ++ uu ++ z, rfl, by simp only [List.length_append]; omega⟩, hkEnd⟩
      · skip
        go_simp
        refine (c_pick R 6 p6 _ hRd (by omega) (by omega)).mono ?_; rintro e W2 ⟨v, p7, rfl, hR7, hp7, hp8, hb7, xx, rfl, hxx0, hxx1⟩
        replace hxx1 := hxx1 (by omega)
        obtain ⟨x, rfl⟩ := Int.eq_ofNat_of_zero_le hxx0
        have hx6 : x < 6 := by omega
        have hkM := hb7.kept hkd (by omega)
        (refine hK.out _ _ (trivial) (fun _ => ?_); clear hK K; try simp only [Act.put, List.setIfInBounds_toArray, List.set_cons_zero, List.set_cons_succ])
        (refine wpAnyH_ready (rs := [3]) (by kernel_rfl) (by simp) ?_; refine AllReadyH.cons rfl (fun K hK => ?_) AllReadyH.nil; go_simp)
        have BM := Blk.new W2 9 #[.string ⟨#[]⟩, .string ⟨#[97]⟩, .string ⟨#[59]⟩, .string ⟨#[58]⟩, .string ⟨#[45]⟩, .string ⟨#[62]⟩]
        have hlM := (Kept.refl W2).alloc (.cells #[.string ⟨#[]⟩, .string ⟨#[97]⟩, .string ⟨#[59]⟩, .string ⟨#[58]⟩, .string ⟨#[45]⟩, .string ⟨#[62]⟩] 9)
        have hkEnd := hkM.trans hlM
        (refine hK.out _ _ (trivial) (fun _ => ?_); clear hK K; try simp only [Act.put, List.setIfInBounds_toArray, List.set_cons_zero, List.set_cons_succ])
        obtain ⟨G, HG⟩ : ∃ x, Hid (W2.heap.size = x) := ⟨_, rfl⟩
        obtain ⟨W1, HW1⟩ : ∃ x, Hid (W2.alloc (.cells #[.string ⟨#[]⟩, .string ⟨#[97]⟩, .string ⟨#[59]⟩, .string ⟨#[58]⟩, .string ⟨#[45]⟩, .string ⟨#[62]⟩] 9) = x) := ⟨_, rfl⟩
        rw [HW1.out] at BM hkEnd
        rw [HG.out] at BM
        rw [HG.out, HW1.out]
        obtain ⟨uu, HUU⟩ : ∃ u, Hid (Sp.opt6 x = u) := ⟨_, rfl⟩
        have hul : uu.length ≤ 1 := by rw [← HUU.out]; exact opt6_len hx6
        have hSS0 := opt6_cell BM hx6
        rw [HUU.out] at hSS0
        have hadd1 : (⟨a.toArray⟩ : ByteArray) ++ ⟨uu.toArray⟩ = ⟨(a ++ uu).toArray⟩ := str_add a uu
        have hadd2 : (⟨(a ++ uu).toArray⟩ : ByteArray) ++ ⟨z.toArray⟩ = ⟨(a ++ uu ++ z).toArray⟩ := str_add (a ++ uu) z
        refine held_more (S' := fun w' => w'.cell? ⟨G, x, none⟩ = some (.string ⟨uu.toArray⟩)) (fun _ _ => trivial) _ _ _ _ ?_
        have hSS : W1.cell? ⟨G, x, none⟩ = some (.string ⟨uu.toArray⟩) := hSS0
        clear hSS0 BM hR7 hb7 hlM
        (refine take_val (i := 6) (v := .pointer (some ⟨G, x, none⟩)) rfl rfl (by kernel_rfl) (by kernel_rfl) (by kernel_rfl) (fun _ _ _ h => h) rfl (by intro wq hq; (try go_split_ands); go_simp; try with_reducible rfl) (hSS) ?_; try simp only [List.setIfInBounds_toArray, List.set_cons_zero, List.set_cons_succ])
        (refine take_val (i := 7) (v := .string ⟨uu.toArray⟩) rfl rfl (by kernel_rfl) (by kernel_rfl) (by kernel_rfl) (fun _ _ _ h => h) rfl (by intro wq hq; (try go_split_ands); go_simp; (try with_reducible rfl); (try omega)) (hSS) ?_; try simp only [List.setIfInBounds_toArray, List.set_cons_zero, List.set_cons_succ])
        (refine take_val (i := 8) (v := .string ⟨(a ++ uu).toArray⟩) rfl rfl (by kernel_rfl) (by kernel_rfl) (by kernel_rfl) (fun _ _ _ h => h) rfl (by intro wq hq; (try go_split_ands); go_simp; (try with_reducible rfl); (try omega)) (hSS) ?_; try simp only [List.setIfInBounds_toArray, List.set_cons_zero, List.set_cons_succ])
        (refine take_val (i := 13) (v := .string ⟨(a ++ uu ++ z).toArray⟩) rfl rfl (by kernel_rfl) (by kernel_rfl) (by kernel_rfl) (fun _ _ _ h => h) rfl (by intro wq hq; (try go_split_ands); go_simp; (try with_reducible rfl); (try omega)) (hSS) ?_; try simp only [List.setIfInBounds_toArray, List.set_cons_zero, List.set_cons_succ])
        (refine take_val (i := 14) (v := .string ⟨(a ++ uu ++ z).toArray⟩) rfl rfl (by kernel_rfl) (by kernel_rfl) (by kernel_rfl) (fun _ _ _ h => h) rfl (by intro wq hq; (try go_split_ands); go_simp; (try with_reducible rfl); (try omega)) (hSS) ?_; try simp only [List.setIfInBounds_toArray, List.set_cons_zero, List.set_cons_succ])
        refine wpAnyH_done (by kernel_rfl) ?_ _
        go_wp2_with fail
        go_ret
        exact ⟨_, rfl, ⟨a ++ uu ++ z, rfl, by simp only [List.length_append]; omega⟩, hkEnd⟩
    · have hs0 : s = [] := List.eq_nil_of_length_eq_zero (by omega)
      subst hs0
      clear hl
      go_wp2_with fail
      go_ret
      exact ⟨_, rfl, ⟨[], rfl, by simp⟩, hk0⟩
  · have hne : (x0 == 0) = false := beq_eq_false_iff_ne.2 hx
    go_wp2_with fail
    go_ret
    exact ⟨_, rfl, ⟨s, rfl, by omega⟩, hk0⟩

end Go.Proofs.YtphdojebdclonaaDoor
