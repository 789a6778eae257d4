/- The draw of a task and a text that is often a proof. No condition. -/
import Derived.Test.YtphdojebdclonaaGreatDoorQ37
import Derived.Test.YtphdojebdclonaaGreatDoorQ17
import Derived.Test.YtphdojebdclonaaGreatDoorQ18
import Derived.Test.YtphdojebdclonaaGreatDoorQ36
namespace Go.Proofs.YtphdojebdclonaaGreatDoor
set_option linter.unusedSimpArgs false
set_option linter.unusedVariables false
open Go.RowKit

/-- a task and a text that were drawn -/
def DrawnTS (v : Value) (w : World) : Prop := ∃ tv t, ∃ s : List UInt8, v = .tuple #[tv, .string ⟨s.toArray⟩] ∧ TaskV w tv t ∧ s.length ≤ 10000
/-- what stands in place of a sign -/
def Sp.opt5 (x : Nat) : List UInt8 := [[], [48], [32], [97], [49]].getD x []
theorem opt5_len {x : Nat} (h : x < 5) : (Sp.opt5 x).length ≤ 1 := by
  rcases (by omega : x = 0 ∨ x = 1 ∨ x = 2 ∨ x = 3 ∨ x = 4) with rfl | rfl | rfl | rfl | rfl <;> decide
theorem opt5_cell {w : World} {G x : Nat} (h : Blk w G 9 #[.string ⟨#[]⟩, .string ⟨#[48]⟩, .string ⟨#[32]⟩, .string ⟨#[97]⟩, .string ⟨#[49]⟩]) (hx : x < 5) : w.cell? ⟨G, x, none⟩ = some (.string ⟨(Sp.opt5 x).toArray⟩) := by
  rw [h.cell]
  rcases (by omega : x = 0 ∨ x = 1 ∨ x = 2 ∨ x = 3 ∨ x = 4) with rfl | rfl | rfl | rfl | rfl <;> rfl
theorem proofText_len (t : Sp.Task) : (Sp.proofText t).length ≤ 200 := by
  unfold Sp.proofText
  split
  · rename_i hok
    split
    · rename_i hp
      have h1 := planText_len (plan_in hp)
      have h2 := (planFor_form t).1
      omega
    · split
      · have := letters_len (Sp.sumForN t)
        rw [List.length_append, show ([115, 117, 109, 32] : List UInt8).length = 4 from rfl]; omega
      · have h1 := reachedN_lt hok
        have h2 := dec_len 10 (Sp.reachedN t) (by omega) (by omega)
        rw [List.length_append, show ([99, 108, 111, 115, 101, 100, 32] : List UInt8).length = 7 from rfl]; omega
  · simp
/-- what is known at the point where the ways meet: the text s; the reader; the result's block D; the block E of the task -/
def MidS (R D E X : Nat) (w w3 : World) (p : Int) (st : Int) (A1 : Option Addr) (n1 c1 : Nat) (A2 : Option Addr) (n2 c2 : Nat) (v : Value) (w' : World) : Prop :=
  ∃ (s : List UInt8) (q : Int), v = .string ⟨s.toArray⟩ ∧ s.length ≤ 200 ∧ Rd R w' q ∧ 0 ≤ q ∧ q ≤ p ∧ Kept w w' ∧ Blk w' D 26 #[.int .i64 0, .slice none 0 0, .slice none 0 0] ∧ Blk w' E 26 #[.int .i64 st, .slice A1 n1 c1, .slice A2 n2 c2] ∧ RowsKept X w3 w'

set_option maxHeartbeats 8000000 in
set_option maxRecDepth 100000 in
theorem c_drawProofRight (A : Option Addr) (n c : Nat) (w : World) (h : BytesV w A n ∧ n ≤ c ∧ c ≤ maxLen) : Calls Tryz.prog 17 #[.slice A n c] w (RetS DrawnTS w) := by
  have hk0 := (Kept.refl w).alloc (.cells #[.int .i64 0, .slice none 0 0, .slice none 0 0] 26)
  have hB0 := Blk.new w 26 #[.int .i64 0, .slice none 0 0, .slice none 0 0]
  have hb0 := h.1.keep hk0
  go_enter Tryz.func17, Tryz.ntmps17
  go_wp2_with fail
  refine (c_l20Open A n c _ hb0 h.2.1 h.2.2).mono ?_; rintro e w2 ⟨v, rfl, ⟨R, rfl, hRge, hR⟩, hk2⟩
  simp only [World.size_alloc] at hRge
  replace hk0 := hk0.trans hk2
  replace hB0 := hB0.kept hk2
  clear hk2 hb0
  have hRlt := hR.lt
  go_wp2_with fail
  refine (c_l20Hard R 12 0 _ hR (by omega) (by omega) (by omega)).mono ?_; rintro e w3 ⟨v, p3, rfl, hR3, hp1, hp2, hB, st, A1, n1, c1, A2, n2, c2, rfl, hst, hG, hD, hn2⟩
  replace hk0 := hB.kept hk0 (by omega)
  replace hB0 := hB.blk hB0 (.inl (by omega))
  have hsz3 := hB.size
  clear hB hR
  obtain ⟨t, _, hTW⟩ := TaskQ.task2 ⟨st, A1, n1, c1, A2, n2, c2, rfl, hst, hG, hD, hn2⟩
  have HTW := Lib.hid hTW
  have hkE := (Kept.refl w3).alloc (.cells #[.int .i64 st, .slice A1 n1 c1, .slice A2 n2 c2] 26)
  have hBE := Blk.new w3 26 #[.int .i64 st, .slice A1 n1 c1, .slice A2 n2 c2]
  have krA := RowsKept.of_kept (X := w2.heap.size) hkE
  replace hk0 := hk0.trans hkE
  replace hB0 := hB0.kept hkE
  replace hR3 := hR3.keep hkE
  have hT := hTW _ krA
  clear hkE hG hD hTW
  go_wp2_with fail
  refine (c_sProofText _ t _ hT).mono ?_; rintro e w4 ⟨rfl, hk4⟩
  have hsl0 := proofText_len t
  obtain ⟨s0, HS0⟩ : ∃ s, Hid (Sp.proofText t = s) := ⟨_, rfl⟩
  rw [HS0.out] at hsl0
  rw [HS0.out]
  replace hk0 := hk0.trans hk4
  replace hB0 := hB0.kept hk4
  replace hBE := hBE.kept hk4
  have hR := hR3.keep hk4
  replace krA := krA.trans (RowsKept.of_kept (X := w2.heap.size) hk4)
  obtain ⟨E, HE⟩ : ∃ E, Hid (w3.heap.size = E) := ⟨_, rfl⟩
  have hEge : w2.heap.size ≤ w3.heap.size := hsz3
  rw [HE.out] at hBE hEge
  rw [HE.out]
  clear hk4 hR3 hT
  go_upto_if 16 with fail
  refine (c_pick R 3 p3 _ hR (by omega) (by omega)).mono ?_; rintro e w5 ⟨v, p5, rfl, hR5, hp3, hp4, hb5, x, rfl, hx0, hx1⟩
  replace hBE := hb5.blk hBE (.inr (by omega))
  replace hk0 := hb5.kept hk0 (by omega)
  replace hB0 := hb5.blk hB0 (.inl (by omega))
  replace krA := krA.trans (RowsKept.of_but (X := w2.heap.size) hb5 hRlt)
  clear hb5 hR
  go_upto_if 16 with fail
  go_cut [6] from 8 (fun v w' => MidS R w.heap.size E w2.heap.size w w3 (p3 + 400) st A1 n1 c1 A2 n2 c2 v w')
  case first =>
    by_cases hx : x = 0
    · subst hx
      go_wp2_with fail
      refine (c_l20Hard R 0 p5 _ hR5 (by omega) (by omega) (by omega)).mono ?_; rintro e w6 ⟨v6, p6, rfl, hR6, hq1, hq2, hb6, hTQ6⟩
      obtain ⟨t6, hTV6, _⟩ := hTQ6.task
      obtain ⟨A6, n6, c6, A7, n7, c7, rfl⟩ := hTV6.form
      replace hBE := hb6.blk hBE (.inr (by omega))
      replace hk0 := hb6.kept hk0 (by omega)
      replace hB0 := hb6.blk hB0 (.inl (by omega))
      replace krA := krA.trans (RowsKept.of_but (X := w2.heap.size) hb6 hRlt)
      clear hb6 hTQ6
      go_wp2_with fail
      refine (c_sProofText _ t6 _ hTV6).mono ?_; rintro e w7 ⟨rfl, hk7⟩
      have hsl6 := proofText_len t6
      have hEnd : MidS R w.heap.size E w2.heap.size w w3 (p3 + 400) st A1 n1 c1 A2 n2 c2 (.string ⟨(Sp.proofText t6).toArray⟩) w7 :=
        ⟨_, p6, rfl, hsl6, hR6.keep hk7, by omega, by omega, hk0.trans hk7, hB0.kept hk7, hBE.kept hk7, krA.trans (RowsKept.of_kept (X := w2.heap.size) hk7)⟩
      have HEnd := Lib.hid hEnd
      clear hEnd
      go_wp2_with fail
      go_meet
      case rel => exact HEnd.out
    · have HEnd : Hid (MidS R w.heap.size E w2.heap.size w w3 (p3 + 400) st A1 n1 c1 A2 n2 c2 (.string ⟨s0.toArray⟩) w5) :=
        ⟨_, p5, rfl, hsl0, hR5, by omega, by omega, hk0, hB0, hBE, krA⟩
      go_wp2_with fail
      go_meet
      case rel => exact HEnd.out
  case rest =>
    clear hk0 hB0 hBE krA hR5 hx0 hx1 hsl0 HS0
    obtain ⟨s, p6, rfl, hsl, hR6, hp60, hp6, hk0, hB0, hBE, krA⟩ := hcut
    go_wp2_with fail
    refine (c_pick R 4 p6 _ hR6 (by omega) (by omega)).mono ?_; rintro e w7 ⟨v, p7, rfl, hR7, hp7, hp7', hb7, y, rfl, hy0, hy1⟩
    replace hBE := hb7.blk hBE (.inr (by omega))
    replace hk0 := hb7.kept hk0 (by omega)
    replace hB0 := hb7.blk hB0 (.inl (by omega))
    replace krA := krA.trans (RowsKept.of_but (X := w2.heap.size) hb7 hRlt)
    clear hb7 hR6
    by_cases hy : y = 0
    · subst hy
      by_cases hl : 0 < s.length
      · have hli : (0 : Int) < (s.length : Int) := by omega
        go_wp2_with fail
        refine (c_pick R (s.length : Int) p7 _ hR7 (by omega) (by omega)).mono ?_; rintro e w8 ⟨v, p8, rfl, hR8, hp8, hp8', hb8, k0, rfl, hk00, hk01⟩
        replace hBE := hb8.blk hBE (.inr (by omega))
        replace hk0 := hb8.kept hk0 (by omega)
        replace hB0 := hb8.blk hB0 (.inl (by omega))
        replace krA := krA.trans (RowsKept.of_but (X := w2.heap.size) hb8 hRlt)
        replace hk01 := hk01 (by omega)
        obtain ⟨k, rfl⟩ := Int.eq_ofNat_of_zero_le hk00
        have hkl : k < s.length := by omega
        obtain ⟨a, HA⟩ : ∃ a, Hid (s.take k = a) := ⟨_, rfl⟩
        obtain ⟨z, HZ⟩ : ∃ z, Hid (s.drop (k + 1) = z) := ⟨_, rfl⟩
        have he1 : (⟨s.toArray⟩ : ByteArray).extract 0 k = ⟨a.toArray⟩ := by rw [ext_take, ← HA.out]; simp
        have he2 : (⟨s.toArray⟩ : ByteArray).extract (k + 1) s.length = ⟨z.toArray⟩ := by
          rw [ext_take, ← HZ.out, List.take_of_length_le (by rw [List.length_drop]; omega)]
        have hal : a.length ≤ 200 := by rw [← HA.out, List.length_take]; omega
        have hzl : z.length ≤ 200 := by rw [← HZ.out, List.length_drop]; omega
        have hw1 : IntKind.i64.wrap ((k : Int) + 1) = ((k + 1 : Nat) : Int) := by rw [IntKind.wrap_i64]; omega
        clear hb8 hR7
        have hdz := (Kept.refl w8).drew
        replace hk0 := hk0.trans hdz
        replace hB0 := hB0.kept hdz
        replace hBE := hBE.kept hdz
        replace krA := krA.trans (RowsKept.of_kept (X := w2.heap.size) hdz)
        have hRd := hR8.keep hdz
        clear hdz
        go_wp2_with fail
        refine wp_region_held_drew (S := fun w' => w'.cell? ⟨E, 0, none⟩ = some (.int .i64 st) ∧ w'.cell? ⟨E, 1, none⟩ = some (.slice A1 n1 c1) ∧ w'.cell? ⟨E, 2, none⟩ = some (.slice A2 n2 c2)) (by kernel_rfl) ⟨hBE.cell 0, hBE.cell 1, hBE.cell 2⟩ (fun hHeld => ?_)
        obtain ⟨W0, HW0⟩ : ∃ x, Hid (w8.drew = x) := ⟨_, rfl⟩
        rw [HW0.out] at hk0 hB0 hBE krA hRd hHeld
        rw [HW0.out]
        (refine take_val (i := 0) (v := .agg #[.int .i64 st, .slice A1 n1 c1, .slice A2 n2 c2]) rfl rfl (by kernel_rfl) (by kernel_rfl) (by kernel_rfl) (fun _ _ _ h => h) rfl (by intro wq hq; (try go_split_ands); go_simp; try with_reducible rfl) (hHeld) ?_; try simp only [List.setIfInBounds_toArray, List.set_cons_zero, List.set_cons_succ])
        (refine take_val (i := 1) (v := .string ⟨s.toArray⟩) rfl rfl (by kernel_rfl) (by kernel_rfl) (by kernel_rfl) (fun _ _ _ h => h) rfl (by intro wq hq; (try go_split_ands); go_simp; (try with_reducible rfl); (try omega)) (hHeld) ?_; try simp only [List.setIfInBounds_toArray, List.set_cons_zero, List.set_cons_succ])
        (refine take_val (i := 2) (v := .int .i64 (k : Int)) rfl rfl (by kernel_rfl) (by kernel_rfl) (by kernel_rfl) (fun _ _ _ h => h) rfl (by intro wq hq; (try go_split_ands); go_simp; try with_reducible rfl) (hHeld) ?_; try simp only [List.setIfInBounds_toArray, List.set_cons_zero, List.set_cons_succ])
        (refine take_val (i := 3) (v := .string ⟨a.toArray⟩) rfl rfl (by kernel_rfl) (by kernel_rfl) (by kernel_rfl) (fun _ _ _ h => h) rfl (by intro wq hq; (try go_split_ands); go_simp; (try with_reducible rfl); (try omega)) (hHeld) ?_; try simp only [List.setIfInBounds_toArray, List.set_cons_zero, List.set_cons_succ])
        (refine take_val (i := 5) (v := .pointer (some ⟨R, 0, none⟩)) rfl rfl (by kernel_rfl) (by kernel_rfl) (by kernel_rfl) (fun _ _ _ h => h) rfl (by intro wq hq; (try go_split_ands); go_simp; try with_reducible rfl) (hHeld) ?_; try simp only [List.setIfInBounds_toArray, List.set_cons_zero, List.set_cons_succ])
        (refine take_val (i := 10) (v := .string ⟨s.toArray⟩) rfl rfl (by kernel_rfl) (by kernel_rfl) (by kernel_rfl) (fun _ _ _ h => h) rfl (by intro wq hq; (try go_split_ands); go_simp; (try with_reducible rfl); (try omega)) (hHeld) ?_; try simp only [List.setIfInBounds_toArray, List.set_cons_zero, List.set_cons_succ])
        (refine take_val (i := 11) (v := .int .i64 (k : Int)) rfl rfl (by kernel_rfl) (by kernel_rfl) (by kernel_rfl) (fun _ _ _ h => h) rfl (by intro wq hq; (try go_split_ands); go_simp; try with_reducible rfl) (hHeld) ?_; try simp only [List.setIfInBounds_toArray, List.set_cons_zero, List.set_cons_succ])
        (refine take_val (i := 12) (v := .int .i64 ((k + 1 : Nat) : Int)) rfl rfl (by kernel_rfl) (by kernel_rfl) (by kernel_rfl) (fun _ _ _ h => h) rfl (by intro wq hq; (try go_split_ands); go_simp; try with_reducible rfl) (hHeld) ?_; try simp only [List.setIfInBounds_toArray, List.set_cons_zero, List.set_cons_succ])
        (refine take_val (i := 13) (v := .string ⟨z.toArray⟩) rfl rfl (by kernel_rfl) (by kernel_rfl) (by kernel_rfl) (fun _ _ _ h => h) rfl (by intro wq hq; (try go_split_ands); go_simp; (try with_reducible rfl); (try omega)) (hHeld) ?_; try simp only [List.setIfInBounds_toArray, List.set_cons_zero, List.set_cons_succ])
        have hsz := hk0.size
        have hRl := hRd.lt
        clear hHeld
        refine wpAnyH_ready (rs := [4, 6]) (by kernel_rfl) (by simp) ?_
        refine AllReadyH.cons rfl (fun K hK => ?_) (AllReadyH.cons rfl (fun K hK => ?_) AllReadyH.nil)
        · skip
          go_simp
          have BM := Blk.new W0 9 #[.string ⟨#[]⟩, .string ⟨#[48]⟩, .string ⟨#[32]⟩, .string ⟨#[97]⟩, .string ⟨#[49]⟩]
          have hlM := (Kept.refl W0).alloc (.cells #[.string ⟨#[]⟩, .string ⟨#[48]⟩, .string ⟨#[32]⟩, .string ⟨#[97]⟩, .string ⟨#[49]⟩] 9)
          have hRM := hRd.keep hlM
          replace hk0 := hk0.trans hlM
          replace hB0 := hB0.kept hlM
          replace hBE := hBE.kept hlM
          replace krA := krA.trans (RowsKept.of_kept (X := w2.heap.size) hlM)
          (refine hK.out _ _ (⟨hBE.cell 0, hBE.cell 1, hBE.cell 2⟩) (fun _ => ?_); clear hK K; try simp only [Act.put, List.setIfInBounds_toArray, List.set_cons_zero, List.set_cons_succ])
          obtain ⟨G, HG⟩ : ∃ x, Hid (W0.heap.size = x) := ⟨_, rfl⟩
          obtain ⟨W1, HW1⟩ : ∃ x, Hid (W0.alloc (.cells #[.string ⟨#[]⟩, .string ⟨#[48]⟩, .string ⟨#[32]⟩, .string ⟨#[97]⟩, .string ⟨#[49]⟩] 9) = x) := ⟨_, rfl⟩
          rw [HW1.out] at BM hRM hk0 hB0 hBE krA
          rw [HG.out] at BM
          rw [HG.out, HW1.out]
          have hRG : R < G := by have := HG.out; omega
          have hwG : w.heap.size < G := by have := HG.out; have := hRge; omega
          clear hlM
          (refine wpAnyH_ready (rs := [6]) (by kernel_rfl) (by simp) ?_; refine AllReadyH.cons rfl (fun K hK => ?_) AllReadyH.nil; go_simp)
          refine (c_pick R 5 p8 _ hRM (by omega) (by omega)).mono ?_; rintro e W2 ⟨v, p9, rfl, hR9, hp9, hp9', hb9, xx, rfl, hxx0, hxx1⟩
          replace hxx1 := hxx1 (by omega)
          obtain ⟨x, rfl⟩ := Int.eq_ofNat_of_zero_le hxx0
          have hx5 : x < 5 := by omega
          replace BM := hb9.blk BM (.inr (by omega))
          replace hBE := hb9.blk hBE (.inr (by omega))
          replace hk0 := hb9.kept hk0 (by omega)
          replace hB0 := hb9.blk hB0 (.inl (by omega))
          replace krA := krA.trans (RowsKept.of_but (X := w2.heap.size) hb9 hRlt)
          clear hb9 hR9 hRM
          (refine hK.out _ _ (⟨hBE.cell 0, hBE.cell 1, hBE.cell 2⟩) (fun _ => ?_); clear hK K; try simp only [Act.put, List.setIfInBounds_toArray, List.set_cons_zero, List.set_cons_succ])
          obtain ⟨uu, HUU⟩ : ∃ u, Hid (Sp.opt5 x = u) := ⟨_, rfl⟩
          have hul : uu.length ≤ 1 := by rw [← HUU.out]; exact opt5_len hx5
          have hSS0 := opt5_cell BM hx5
          rw [HUU.out] at hSS0
          have hadd1 : (⟨a.toArray⟩ : ByteArray) ++ ⟨uu.toArray⟩ = ⟨(a ++ uu).toArray⟩ := str_add a uu
          have hadd2 : (⟨(a ++ uu).toArray⟩ : ByteArray) ++ ⟨z.toArray⟩ = ⟨(a ++ uu ++ z).toArray⟩ := str_add (a ++ uu) z
          refine held_more (S' := fun w' => w'.cell? ⟨G, x, none⟩ = some (.string ⟨uu.toArray⟩) ∧ w'.cell? ⟨E, 0, none⟩ = some (.int .i64 st) ∧ w'.cell? ⟨E, 1, none⟩ = some (.slice A1 n1 c1) ∧ w'.cell? ⟨E, 2, none⟩ = some (.slice A2 n2 c2)) (fun _ h => h.2) _ _ _ _ ?_
          have hSS : W2.cell? ⟨G, x, none⟩ = some (.string ⟨uu.toArray⟩) ∧ W2.cell? ⟨E, 0, none⟩ = some (.int .i64 st) ∧ W2.cell? ⟨E, 1, none⟩ = some (.slice A1 n1 c1) ∧ W2.cell? ⟨E, 2, none⟩ = some (.slice A2 n2 c2) := ⟨hSS0, hBE.cell 0, hBE.cell 1, hBE.cell 2⟩
          (refine take_val (i := 7) (v := .pointer (some ⟨G, x, none⟩)) rfl rfl (by kernel_rfl) (by kernel_rfl) (by kernel_rfl) (fun _ _ _ h => h) rfl (by intro wq hq; (try go_split_ands); go_simp; try with_reducible rfl) (hSS) ?_; try simp only [List.setIfInBounds_toArray, List.set_cons_zero, List.set_cons_succ])
          (refine take_val (i := 8) (v := .string ⟨uu.toArray⟩) rfl rfl (by kernel_rfl) (by kernel_rfl) (by kernel_rfl) (fun _ _ _ h => h) rfl (by intro wq hq; (try go_split_ands); go_simp; (try with_reducible rfl); (try omega)) (hSS) ?_; try simp only [List.setIfInBounds_toArray, List.set_cons_zero, List.set_cons_succ])
          (refine take_val (i := 9) (v := .string ⟨(a ++ uu).toArray⟩) rfl rfl (by kernel_rfl) (by kernel_rfl) (by kernel_rfl) (fun _ _ _ h => h) rfl (by intro wq hq; (try go_split_ands); go_simp; (try with_reducible rfl); (try omega)) (hSS) ?_; try simp only [List.setIfInBounds_toArray, List.set_cons_zero, List.set_cons_succ])
          (refine take_val (i := 14) (v := .string ⟨(a ++ uu ++ z).toArray⟩) rfl rfl (by kernel_rfl) (by kernel_rfl) (by kernel_rfl) (fun _ _ _ h => h) rfl (by intro wq hq; (try go_split_ands); go_simp; (try with_reducible rfl); (try omega)) (hSS) ?_; try simp only [List.setIfInBounds_toArray, List.set_cons_zero, List.set_cons_succ])
          have ce := hB0.cell
          have fe := hB0.frozen
          have b1 := hB0.set_ 0 (.int .i64 st)
          have b2 := b1.set_ 1 (.slice A1 n1 c1)
          have k1 := RowsKept.set (X := w2.heap.size) hB0 (by decide) (by decide) 0 (.int .i64 st)
          have k2 := RowsKept.set (X := w2.heap.size) b1 (by decide) (by decide) 1 (.slice A1 n1 c1)
          have k3 := RowsKept.set (X := w2.heap.size) b2 (by decide) (by decide) 2 (.slice A2 n2 c2)
          have HTF := Lib.hid (HTW.out _ (((krA.trans k1).trans k2).trans k3))
          have hle := Nat.le_refl w.heap.size
          have HKF := Lib.hid (((hk0.setCell (p := ⟨w.heap.size, 0, none⟩) hle (.int .i64 st)).setCell (p := ⟨w.heap.size, 1, none⟩) hle (.slice A1 n1 c1)).setCell (p := ⟨w.heap.size, 2, none⟩) hle (.slice A2 n2 c2))
          clear b1 b2 k1 k2 k3 hle
          have hnE : E ≠ w.heap.size := by omega
          have hnG : G ≠ w.heap.size := by omega
          have hBF := ((hBE.far (p := ⟨w.heap.size, 0, none⟩) hnE (.int .i64 st)).far (p := ⟨w.heap.size, 1, none⟩) hnE (.slice A1 n1 c1)).far (p := ⟨w.heap.size, 2, none⟩) hnE (.slice A2 n2 c2)
          have hGF := ((BM.far (p := ⟨w.heap.size, 0, none⟩) hnG (.int .i64 st)).far (p := ⟨w.heap.size, 1, none⟩) hnG (.slice A1 n1 c1)).far (p := ⟨w.heap.size, 2, none⟩) hnG (.slice A2 n2 c2)
          have hSG := opt5_cell hGF hx5
          rw [HUU.out] at hSG
          have hSF := (⟨hSG, hBF.cell 0, hBF.cell 1, hBF.cell 2⟩ : _ ∧ _ ∧ _ ∧ _)
          clear hSS hSS0 hB0 hBE krA hk0 hBF hGF hSG BM
          (refine wpAnyH_ready (rs := [15]) (by kernel_rfl) (by simp) ?_; refine AllReadyH.cons rfl (fun K hK => ?_) AllReadyH.nil; go_simp)
          (refine hK.out _ _ (hSF) (fun _ => ?_); clear hK K; try simp only [Act.put, List.setIfInBounds_toArray, List.set_cons_zero, List.set_cons_succ])
          (refine take_val (i := 16) (v := .string ⟨(a ++ uu ++ z).toArray⟩) rfl rfl (by kernel_rfl) (by kernel_rfl) (by kernel_rfl) (fun _ _ _ h => h) rfl (by intro wq hq; (try go_split_ands); go_simp; (try with_reducible rfl); (try omega)) (hSF) ?_; try simp only [List.setIfInBounds_toArray, List.set_cons_zero, List.set_cons_succ])
          refine wpAnyH_done (by kernel_rfl) ?_ _
          clear hSF
          go_wp2_with fail
          refine bodyPost_ret (v := .tuple #[.agg #[.int .i64 st, .slice A1 n1 c1, .slice A2 n2 c2], .string ⟨(a ++ uu ++ z).toArray⟩]) (by simp [results, Tryz.results17, go_sem, ce]) rfl ?_
          exact ⟨_, rfl, ⟨_, t, a ++ uu ++ z, rfl, HTF.out, by simp only [List.length_append]; omega⟩, HKF.out⟩
        · skip
          go_simp
          refine (c_pick R 5 p8 _ hRd (by omega) (by omega)).mono ?_; rintro e W1 ⟨v, p9, rfl, hR9, hp9, hp9', hb9, xx, rfl, hxx0, hxx1⟩
          replace hxx1 := hxx1 (by omega)
          obtain ⟨x, rfl⟩ := Int.eq_ofNat_of_zero_le hxx0
          have hx5 : x < 5 := by omega
          replace hBE := hb9.blk hBE (.inr (by omega))
          replace hk0 := hb9.kept hk0 (by omega)
          replace hB0 := hb9.blk hB0 (.inl (by omega))
          replace krA := krA.trans (RowsKept.of_but (X := w2.heap.size) hb9 hRlt)
          have hsz9 := hb9.size
          clear hb9 hR9
          (refine hK.out _ _ (⟨hBE.cell 0, hBE.cell 1, hBE.cell 2⟩) (fun _ => ?_); clear hK K; try simp only [Act.put, List.setIfInBounds_toArray, List.set_cons_zero, List.set_cons_succ])
          refine wpAnyH_ready (rs := [4, 15]) (by kernel_rfl) (by simp) ?_
          refine AllReadyH.cons rfl (fun K hK => ?_) (AllReadyH.cons rfl (fun K hK => ?_) AllReadyH.nil)
          · skip
            go_simp
            have BM := Blk.new W1 9 #[.string ⟨#[]⟩, .string ⟨#[48]⟩, .string ⟨#[32]⟩, .string ⟨#[97]⟩, .string ⟨#[49]⟩]
            have hlM := (Kept.refl W1).alloc (.cells #[.string ⟨#[]⟩, .string ⟨#[48]⟩, .string ⟨#[32]⟩, .string ⟨#[97]⟩, .string ⟨#[49]⟩] 9)
            replace hk0 := hk0.trans hlM
            replace hB0 := hB0.kept hlM
            replace hBE := hBE.kept hlM
            replace krA := krA.trans (RowsKept.of_kept (X := w2.heap.size) hlM)
            (refine hK.out _ _ (⟨hBE.cell 0, hBE.cell 1, hBE.cell 2⟩) (fun _ => ?_); clear hK K; try simp only [Act.put, List.setIfInBounds_toArray, List.set_cons_zero, List.set_cons_succ])
            obtain ⟨G, HG⟩ : ∃ x, Hid (W1.heap.size = x) := ⟨_, rfl⟩
            obtain ⟨W2, HW2⟩ : ∃ x, Hid (W1.alloc (.cells #[.string ⟨#[]⟩, .string ⟨#[48]⟩, .string ⟨#[32]⟩, .string ⟨#[97]⟩, .string ⟨#[49]⟩] 9) = x) := ⟨_, rfl⟩
            rw [HW2.out] at BM hk0 hB0 hBE krA
            rw [HG.out] at BM
            rw [HG.out, HW2.out]
            have hwG : w.heap.size < G := by have := HG.out; have := hRge; omega
            clear hlM
            obtain ⟨uu, HUU⟩ : ∃ u, Hid (Sp.opt5 x = u) := ⟨_, rfl⟩
            have hul : uu.length ≤ 1 := by rw [← HUU.out]; exact opt5_len hx5
            have hSS0 := opt5_cell BM hx5
            rw [HUU.out] at hSS0
            have hadd1 : (⟨a.toArray⟩ : ByteArray) ++ ⟨uu.toArray⟩ = ⟨(a ++ uu).toArray⟩ := str_add a uu
            have hadd2 : (⟨(a ++ uu).toArray⟩ : ByteArray) ++ ⟨z.toArray⟩ = ⟨(a ++ uu ++ z).toArray⟩ := str_add (a ++ uu) z
            refine held_more (S' := fun w' => w'.cell? ⟨G, x, none⟩ = some (.string ⟨uu.toArray⟩) ∧ w'.cell? ⟨E, 0, none⟩ = some (.int .i64 st) ∧ w'.cell? ⟨E, 1, none⟩ = some (.slice A1 n1 c1) ∧ w'.cell? ⟨E, 2, none⟩ = some (.slice A2 n2 c2)) (fun _ h => h.2) _ _ _ _ ?_
            have hSS : W2.cell? ⟨G, x, none⟩ = some (.string ⟨uu.toArray⟩) ∧ W2.cell? ⟨E, 0, none⟩ = some (.int .i64 st) ∧ W2.cell? ⟨E, 1, none⟩ = some (.slice A1 n1 c1) ∧ W2.cell? ⟨E, 2, none⟩ = some (.slice A2 n2 c2) := ⟨hSS0, hBE.cell 0, hBE.cell 1, hBE.cell 2⟩
            (refine take_val (i := 7) (v := .pointer (some ⟨G, x, none⟩)) rfl rfl (by kernel_rfl) (by kernel_rfl) (by kernel_rfl) (fun _ _ _ h => h) rfl (by intro wq hq; (try go_split_ands); go_simp; try with_reducible rfl) (hSS) ?_; try simp only [List.setIfInBounds_toArray, List.set_cons_zero, List.set_cons_succ])
            (refine take_val (i := 8) (v := .string ⟨uu.toArray⟩) rfl rfl (by kernel_rfl) (by kernel_rfl) (by kernel_rfl) (fun _ _ _ h => h) rfl (by intro wq hq; (try go_split_ands); go_simp; (try with_reducible rfl); (try omega)) (hSS) ?_; try simp only [List.setIfInBounds_toArray, List.set_cons_zero, List.set_cons_succ])
            (refine take_val (i := 9) (v := .string ⟨(a ++ uu).toArray⟩) rfl rfl (by kernel_rfl) (by kernel_rfl) (by kernel_rfl) (fun _ _ _ h => h) rfl (by intro wq hq; (try go_split_ands); go_simp; (try with_reducible rfl); (try omega)) (hSS) ?_; try simp only [List.setIfInBounds_toArray, List.set_cons_zero, List.set_cons_succ])
            (refine take_val (i := 14) (v := .string ⟨(a ++ uu ++ z).toArray⟩) rfl rfl (by kernel_rfl) (by kernel_rfl) (by kernel_rfl) (fun _ _ _ h => h) rfl (by intro wq hq; (try go_split_ands); go_simp; (try with_reducible rfl); (try omega)) (hSS) ?_; try simp only [List.setIfInBounds_toArray, List.set_cons_zero, List.set_cons_succ])
            have ce := hB0.cell
            have fe := hB0.frozen
            have b1 := hB0.set_ 0 (.int .i64 st)
            have b2 := b1.set_ 1 (.slice A1 n1 c1)
            have k1 := RowsKept.set (X := w2.heap.size) hB0 (by decide) (by decide) 0 (.int .i64 st)
            have k2 := RowsKept.set (X := w2.heap.size) b1 (by decide) (by decide) 1 (.slice A1 n1 c1)
            have k3 := RowsKept.set (X := w2.heap.size) b2 (by decide) (by decide) 2 (.slice A2 n2 c2)
            have HTF := Lib.hid (HTW.out _ (((krA.trans k1).trans k2).trans k3))
            have hle := Nat.le_refl w.heap.size
            have HKF := Lib.hid (((hk0.setCell (p := ⟨w.heap.size, 0, none⟩) hle (.int .i64 st)).setCell (p := ⟨w.heap.size, 1, none⟩) hle (.slice A1 n1 c1)).setCell (p := ⟨w.heap.size, 2, none⟩) hle (.slice A2 n2 c2))
            clear b1 b2 k1 k2 k3 hle
            have hnE : E ≠ w.heap.size := by omega
            have hnG : G ≠ w.heap.size := by omega
            have hBF := ((hBE.far (p := ⟨w.heap.size, 0, none⟩) hnE (.int .i64 st)).far (p := ⟨w.heap.size, 1, none⟩) hnE (.slice A1 n1 c1)).far (p := ⟨w.heap.size, 2, none⟩) hnE (.slice A2 n2 c2)
            have hGF := ((BM.far (p := ⟨w.heap.size, 0, none⟩) hnG (.int .i64 st)).far (p := ⟨w.heap.size, 1, none⟩) hnG (.slice A1 n1 c1)).far (p := ⟨w.heap.size, 2, none⟩) hnG (.slice A2 n2 c2)
            have hSG := opt5_cell hGF hx5
            rw [HUU.out] at hSG
            have hSF := (⟨hSG, hBF.cell 0, hBF.cell 1, hBF.cell 2⟩ : _ ∧ _ ∧ _ ∧ _)
            clear hSS hSS0 hB0 hBE krA hk0 hBF hGF hSG BM
            (refine wpAnyH_ready (rs := [15]) (by kernel_rfl) (by simp) ?_; refine AllReadyH.cons rfl (fun K hK => ?_) AllReadyH.nil; go_simp)
            (refine hK.out _ _ (hSF) (fun _ => ?_); clear hK K; try simp only [Act.put, List.setIfInBounds_toArray, List.set_cons_zero, List.set_cons_succ])
            (refine take_val (i := 16) (v := .string ⟨(a ++ uu ++ z).toArray⟩) rfl rfl (by kernel_rfl) (by kernel_rfl) (by kernel_rfl) (fun _ _ _ h => h) rfl (by intro wq hq; (try go_split_ands); go_simp; (try with_reducible rfl); (try omega)) (hSF) ?_; try simp only [List.setIfInBounds_toArray, List.set_cons_zero, List.set_cons_succ])
            refine wpAnyH_done (by kernel_rfl) ?_ _
            clear hSF
            go_wp2_with fail
            refine bodyPost_ret (v := .tuple #[.agg #[.int .i64 st, .slice A1 n1 c1, .slice A2 n2 c2], .string ⟨(a ++ uu ++ z).toArray⟩]) (by simp [results, Tryz.results17, go_sem, ce]) rfl ?_
            exact ⟨_, rfl, ⟨_, t, a ++ uu ++ z, rfl, HTF.out, by simp only [List.length_append]; omega⟩, HKF.out⟩
          · skip
            have ce := hB0.cell
            have fe := hB0.frozen
            have b1 := hB0.set_ 0 (.int .i64 st)
            have b2 := b1.set_ 1 (.slice A1 n1 c1)
            have k1 := RowsKept.set (X := w2.heap.size) hB0 (by decide) (by decide) 0 (.int .i64 st)
            have k2 := RowsKept.set (X := w2.heap.size) b1 (by decide) (by decide) 1 (.slice A1 n1 c1)
            have k3 := RowsKept.set (X := w2.heap.size) b2 (by decide) (by decide) 2 (.slice A2 n2 c2)
            have HTF := Lib.hid (HTW.out _ (((krA.trans k1).trans k2).trans k3))
            have hle := Nat.le_refl w.heap.size
            have HKF := Lib.hid (((hk0.setCell (p := ⟨w.heap.size, 0, none⟩) hle (.int .i64 st)).setCell (p := ⟨w.heap.size, 1, none⟩) hle (.slice A1 n1 c1)).setCell (p := ⟨w.heap.size, 2, none⟩) hle (.slice A2 n2 c2))
            clear b1 b2 k1 k2 k3 hle
            have hnE : E ≠ w.heap.size := by omega
            have hBF := ((hBE.far (p := ⟨w.heap.size, 0, none⟩) hnE (.int .i64 st)).far (p := ⟨w.heap.size, 1, none⟩) hnE (.slice A1 n1 c1)).far (p := ⟨w.heap.size, 2, none⟩) hnE (.slice A2 n2 c2)
            have HB0 := Lib.hid hB0
            clear hB0 hBE krA hk0
            go_simp
            (refine hK.out _ _ (⟨hBF.cell 0, hBF.cell 1, hBF.cell 2⟩) (fun _ => ?_); clear hK K; try simp only [Act.put, List.setIfInBounds_toArray, List.set_cons_zero, List.set_cons_succ])
            (refine wpAnyH_ready (rs := [4]) (by kernel_rfl) (by simp) ?_; refine AllReadyH.cons rfl (fun K hK => ?_) AllReadyH.nil; go_simp)
            obtain ⟨W2, HW2⟩ : ∃ x, Hid (((W1.setCell ⟨w.heap.size, 0, none⟩ (.int .i64 st)).setCell ⟨w.heap.size, 1, none⟩ (.slice A1 n1 c1)).setCell ⟨w.heap.size, 2, none⟩ (.slice A2 n2 c2) = x) := ⟨_, rfl⟩
            have hB3 := ((HB0.out.set_ 0 (.int .i64 st)).set_ 1 (.slice A1 n1 c1)).set_ 2 (.slice A2 n2 c2)
            rw [HW2.out] at HTF HKF hBF hB3
            have BM := Blk.new W2 9 #[.string ⟨#[]⟩, .string ⟨#[48]⟩, .string ⟨#[32]⟩, .string ⟨#[97]⟩, .string ⟨#[49]⟩]
            have hlM := (Kept.refl W2).alloc (.cells #[.string ⟨#[]⟩, .string ⟨#[48]⟩, .string ⟨#[32]⟩, .string ⟨#[97]⟩, .string ⟨#[49]⟩] 9)
            have HTG := Lib.hid (HTF.out.keep hlM)
            have HKG := Lib.hid (HKF.out.trans hlM)
            replace hBF := hBF.kept hlM
            have ce3 := (hB3.kept hlM).cell
            simp only [HW2.out]
            have hs12 : W2.heap.size = W1.heap.size := by rw [← HW2.out]; simp
            rw [hs12] at BM
            (refine hK.out _ _ (⟨hBF.cell 0, hBF.cell 1, hBF.cell 2⟩) (fun _ => ?_); clear hK K; try simp only [Act.put, List.setIfInBounds_toArray, List.set_cons_zero, List.set_cons_succ])
            obtain ⟨G, HG⟩ : ∃ x, Hid (W1.heap.size = x) := ⟨_, rfl⟩
            obtain ⟨W3, HW3⟩ : ∃ x, Hid (W2.alloc (.cells #[.string ⟨#[]⟩, .string ⟨#[48]⟩, .string ⟨#[32]⟩, .string ⟨#[97]⟩, .string ⟨#[49]⟩] 9) = x) := ⟨_, rfl⟩
            rw [HW3.out] at BM hBF HTG HKG ce3
            rw [HG.out] at BM
            rw [HG.out, HW3.out]
            clear hlM ce fe
            obtain ⟨uu, HUU⟩ : ∃ u, Hid (Sp.opt5 x = u) := ⟨_, rfl⟩
            have hul : uu.length ≤ 1 := by rw [← HUU.out]; exact opt5_len hx5
            have hSS0 := opt5_cell BM hx5
            rw [HUU.out] at hSS0
            have hadd1 : (⟨a.toArray⟩ : ByteArray) ++ ⟨uu.toArray⟩ = ⟨(a ++ uu).toArray⟩ := str_add a uu
            have hadd2 : (⟨(a ++ uu).toArray⟩ : ByteArray) ++ ⟨z.toArray⟩ = ⟨(a ++ uu ++ z).toArray⟩ := str_add (a ++ uu) z
            refine held_more (S' := fun w' => w'.cell? ⟨G, x, none⟩ = some (.string ⟨uu.toArray⟩) ∧ w'.cell? ⟨E, 0, none⟩ = some (.int .i64 st) ∧ w'.cell? ⟨E, 1, none⟩ = some (.slice A1 n1 c1) ∧ w'.cell? ⟨E, 2, none⟩ = some (.slice A2 n2 c2)) (fun _ h => h.2) _ _ _ _ ?_
            have hSS : W3.cell? ⟨G, x, none⟩ = some (.string ⟨uu.toArray⟩) ∧ W3.cell? ⟨E, 0, none⟩ = some (.int .i64 st) ∧ W3.cell? ⟨E, 1, none⟩ = some (.slice A1 n1 c1) ∧ W3.cell? ⟨E, 2, none⟩ = some (.slice A2 n2 c2) := ⟨hSS0, hBF.cell 0, hBF.cell 1, hBF.cell 2⟩
            (refine take_val (i := 7) (v := .pointer (some ⟨G, x, none⟩)) rfl rfl (by kernel_rfl) (by kernel_rfl) (by kernel_rfl) (fun _ _ _ h => h) rfl (by intro wq hq; (try go_split_ands); go_simp; try with_reducible rfl) (hSS) ?_; try simp only [List.setIfInBounds_toArray, List.set_cons_zero, List.set_cons_succ])
            (refine take_val (i := 8) (v := .string ⟨uu.toArray⟩) rfl rfl (by kernel_rfl) (by kernel_rfl) (by kernel_rfl) (fun _ _ _ h => h) rfl (by intro wq hq; (try go_split_ands); go_simp; (try with_reducible rfl); (try omega)) (hSS) ?_; try simp only [List.setIfInBounds_toArray, List.set_cons_zero, List.set_cons_succ])
            (refine take_val (i := 9) (v := .string ⟨(a ++ uu).toArray⟩) rfl rfl (by kernel_rfl) (by kernel_rfl) (by kernel_rfl) (fun _ _ _ h => h) rfl (by intro wq hq; (try go_split_ands); go_simp; (try with_reducible rfl); (try omega)) (hSS) ?_; try simp only [List.setIfInBounds_toArray, List.set_cons_zero, List.set_cons_succ])
            (refine take_val (i := 14) (v := .string ⟨(a ++ uu ++ z).toArray⟩) rfl rfl (by kernel_rfl) (by kernel_rfl) (by kernel_rfl) (fun _ _ _ h => h) rfl (by intro wq hq; (try go_split_ands); go_simp; (try with_reducible rfl); (try omega)) (hSS) ?_; try simp only [List.setIfInBounds_toArray, List.set_cons_zero, List.set_cons_succ])
            (refine take_val (i := 16) (v := .string ⟨(a ++ uu ++ z).toArray⟩) rfl rfl (by kernel_rfl) (by kernel_rfl) (by kernel_rfl) (fun _ _ _ h => h) rfl (by intro wq hq; (try go_split_ands); go_simp; (try with_reducible rfl); (try omega)) (hSS) ?_; try simp only [List.setIfInBounds_toArray, List.set_cons_zero, List.set_cons_succ])
            refine wpAnyH_done (by kernel_rfl) ?_ _
            clear hSS hSS0 hBF
            go_wp2_with fail
            refine bodyPost_ret (v := .tuple #[.agg #[.int .i64 st, .slice A1 n1 c1, .slice A2 n2 c2], .string ⟨(a ++ uu ++ z).toArray⟩]) (by simp [results, Tryz.results17, go_sem, ce3]) rfl ?_
            exact ⟨_, rfl, ⟨_, t, a ++ uu ++ z, rfl, HTG.out, by simp only [List.length_append]; omega⟩, HKG.out⟩
      · have hs0 : s = [] := List.eq_nil_of_length_eq_zero (by omega)
        subst hs0
        clear hl hsl
        have ce := hB0.cell
        have fe := hB0.frozen
        have b1 := hB0.set_ 0 (.int .i64 st)
        have b2 := b1.set_ 1 (.slice A1 n1 c1)
        have k1 := RowsKept.set (X := w2.heap.size) hB0 (by decide) (by decide) 0 (.int .i64 st)
        have k2 := RowsKept.set (X := w2.heap.size) b1 (by decide) (by decide) 1 (.slice A1 n1 c1)
        have k3 := RowsKept.set (X := w2.heap.size) b2 (by decide) (by decide) 2 (.slice A2 n2 c2)
        have HTF := Lib.hid (HTW.out _ (((krA.trans k1).trans k2).trans k3))
        have hle := Nat.le_refl w.heap.size
        have HKF := Lib.hid (((hk0.setCell (p := ⟨w.heap.size, 0, none⟩) hle (.int .i64 st)).setCell (p := ⟨w.heap.size, 1, none⟩) hle (.slice A1 n1 c1)).setCell (p := ⟨w.heap.size, 2, none⟩) hle (.slice A2 n2 c2))
        clear b1 b2 k1 k2 k3 hle
        have ge := hBE.cell
        have hnE : E ≠ w.heap.size := by omega
        clear hB0 hBE krA hk0
        go_wp2_with fail
        refine bodyPost_ret (v := .tuple #[.agg #[.int .i64 st, .slice A1 n1 c1, .slice A2 n2 c2], .string ⟨#[]⟩]) (by simp [results, Tryz.results17, go_sem, ce]) rfl ?_
        exact ⟨_, rfl, ⟨_, t, [], rfl, HTF.out, by simp⟩, HKF.out⟩
    · have hne : (y == 0) = false := beq_eq_false_iff_ne.2 hy
      have ce := hB0.cell
      have fe := hB0.frozen
      have b1 := hB0.set_ 0 (.int .i64 st)
      have b2 := b1.set_ 1 (.slice A1 n1 c1)
      have k1 := RowsKept.set (X := w2.heap.size) hB0 (by decide) (by decide) 0 (.int .i64 st)
      have k2 := RowsKept.set (X := w2.heap.size) b1 (by decide) (by decide) 1 (.slice A1 n1 c1)
      have k3 := RowsKept.set (X := w2.heap.size) b2 (by decide) (by decide) 2 (.slice A2 n2 c2)
      have HTF := Lib.hid (HTW.out _ (((krA.trans k1).trans k2).trans k3))
      have hle := Nat.le_refl w.heap.size
      have HKF := Lib.hid (((hk0.setCell (p := ⟨w.heap.size, 0, none⟩) hle (.int .i64 st)).setCell (p := ⟨w.heap.size, 1, none⟩) hle (.slice A1 n1 c1)).setCell (p := ⟨w.heap.size, 2, none⟩) hle (.slice A2 n2 c2))
      clear b1 b2 k1 k2 k3 hle
      have ge := hBE.cell
      have hnE : E ≠ w.heap.size := by omega
      clear hB0 hBE krA hk0
      go_wp2_with fail
      refine bodyPost_ret (v := .tuple #[.agg #[.int .i64 st, .slice A1 n1 c1, .slice A2 n2 c2], .string ⟨s.toArray⟩]) (by simp [results, Tryz.results17, go_sem, ce]) rfl ?_
      exact ⟨_, rfl, ⟨_, t, s, rfl, HTF.out, by omega⟩, HKF.out⟩

end Go.Proofs.YtphdojebdclonaaGreatDoor
