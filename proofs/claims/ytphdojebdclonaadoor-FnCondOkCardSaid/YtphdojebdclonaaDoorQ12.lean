/- Joined texts. No condition. -/
import Derived.StillTailTactics
import Derived.LoopN
import Derived.Test.YtphdojebdclonaaDoorQ7
import Derived.Test.YtphdojebdclonaaDoorQ9
/- Walks: alive. No condition. -/
namespace Go.Proofs.YtphdojebdclonaaDoor
set_option linter.unusedSimpArgs false
set_option linter.unusedVariables false
open Go.RowKit

set_option maxRecDepth 100000 in
theorem c_join (w0 w : World) (g a b n c : Nat) (f : Nat → Nat) (h : IntRow w g n (fun s => (f s : Nat))) (hk : Kept w0 w) (hg : w0.heap.size ≤ g) (ha : a < n) (hb : b < n) (hab : a ≠ b) (hn : n ≤ 9) (hf : ∀ s, s < n → f s < 512) :
    Calls Tryd.prog 113 #[.slice (some ⟨g, 0, none⟩) n c, .int .i64 (a : Int), .int .i64 (b : Int)] w (RetS (fun _ w' => IntRow w' g n (fun s => ((if s = b then f b ||| 2 ^ a else if s = a then f a ||| 2 ^ b else f s : Nat) : Int))) w0) := by
  have ha0 : (0 : Int) ≤ (a : Int) := by omega
  have ha1 : (a : Int) < (n : Int) := by omega
  have hb0 : (0 : Int) ≤ (b : Int) := by omega
  have hb1 : (b : Int) < (n : Int) := by omega
  have hs1 := bin_shl_one a (by omega)
  have hs2 := bin_shl_one b (by omega)
  have ho1 := or_p2 (f a) b (by have := hf a ha; omega) (by omega)
  have ho2 := or_p2 (f b) a (by have := hf b hb; omega) (by omega)
  have c1 := h.2.2 a ha
  have f1 := h.2.1 a
  have h1 := (h.set ha ((f a ||| 2 ^ b : Nat) : Int)).keep (Kept.refl _).drew
  have k1 := (hk.setCell (p := ⟨g, a, none⟩) hg (.int .i64 ((f a ||| 2 ^ b : Nat) : Int))).drew
  go_enter Tryd.func113, Tryd.ntmps113
  go_wp2_with fail
  go_still_tail 8, (by kernel_rfl)
  change wpList _ _ _ _ _ w.drew
  go_wp2_with fail
  generalize (w.setCell ⟨g, a, none⟩ (.int .i64 ((f a ||| 2 ^ b : Nat) : Int))).drew = wb at *
  have c2 : wb.cell? ⟨g, b, none⟩ = some (.int .i64 ((f b : Nat) : Int)) := by
    have := h1.2.2 b hb
    simpa [Ne.symm hab] using this
  have f2 := h1.2.1 b
  have h2 := ((h1.set hb ((f b ||| 2 ^ a : Nat) : Int)).keep (Kept.refl _).drew).congr (f' := fun s => ((if s = b then f b ||| 2 ^ a else if s = a then f a ||| 2 ^ b else f s : Nat) : Int)) fun s _ => by
    by_cases e : s = b
    · rw [if_pos e, if_pos e]
    · rw [if_neg e, if_neg e]
      by_cases e2 : s = a
      · rw [if_pos e2, if_pos e2]
      · rw [if_neg e2, if_neg e2]
  have k2 := (k1.setCell (p := ⟨g, b, none⟩) hg (.int .i64 ((f b ||| 2 ^ a : Nat) : Int))).drew
  clear h1 k1 c1 f1 h hk
  go_wp2_with fail
  go_still_tail 8, (by kernel_rfl)
  change wpList _ _ _ _ _ wb.drew
  go_wp2_with fail
  exact bodyPost_end (results_none rfl _ _ _) rfl ⟨_, rfl, h2, k2⟩

/-- the rows of the grid of four, behind n lines -/
def Sp.grid4 (n : Nat) : Nat → Nat := fun s => ((([[0, 0, 0, 0], [2, 1, 0, 0], [6, 1, 1, 0], [6, 9, 1, 2], [6, 9, 9, 6]] : List (List Nat)).getD n []).getD s 0)
theorem grid4_lt (n : Nat) (hn : n < 5) : ∀ s, s < 4 → Sp.grid4 n s < 512 := by
  revert n
  decide
theorem grid_step0 : ∀ s, s < 4 → (if s = 1 then Sp.grid4 0 1 ||| 2 ^ 0 else if s = 0 then Sp.grid4 0 0 ||| 2 ^ 1 else Sp.grid4 0 s) = Sp.grid4 1 s := by decide
theorem grid_step1 : ∀ s, s < 4 → (if s = 2 then Sp.grid4 1 2 ||| 2 ^ 0 else if s = 0 then Sp.grid4 1 0 ||| 2 ^ 2 else Sp.grid4 1 s) = Sp.grid4 2 s := by decide
theorem grid_step2 : ∀ s, s < 4 → (if s = 3 then Sp.grid4 2 3 ||| 2 ^ 1 else if s = 1 then Sp.grid4 2 1 ||| 2 ^ 3 else Sp.grid4 2 s) = Sp.grid4 3 s := by decide
theorem grid_step3 : ∀ s, s < 4 → (if s = 3 then Sp.grid4 3 3 ||| 2 ^ 2 else if s = 2 then Sp.grid4 3 2 ||| 2 ^ 3 else Sp.grid4 3 s) = Sp.grid4 4 s := by decide
theorem IntRow.made4 (w : World) : IntRow (w.alloc (.cells (madeCells #[.int .i64 0] 4) 3)) w.heap.size 4 (fun s => (Sp.grid4 0 s : Nat)) := by
  have B := Blk.new w 3 (madeCells #[.int .i64 0] 4)
  have hz : ∀ s, s < 4 → Sp.grid4 0 s = 0 := by decide
  exact ⟨B.lt, B.frozen, fun s hs => by rw [B.cell]; simp only [hz s hs]; simp [madeCells, hs, Nat.mod_one]⟩
theorem IntRow.far {w : World} {g n : Nat} {f : Nat → Int} (h : IntRow w g n f) {p : Addr} (hp : g ≠ p.block) (v : Value) : IntRow (w.setCell p v) g n f :=
  ⟨by simpa using h.1, fun i => by simpa using h.2.1 i, fun s hs => by rw [World.cell?_setCell_other _ _ _ _ (fun e => hp (by rw [e]))]; exact h.2.2 s hs⟩
attribute [irreducible] Sp.grid4

set_option maxHeartbeats 1000000 in
set_option maxRecDepth 100000 in
theorem c_grid (w : World) : Calls Tryd.prog 52 #[.int .i64 2, .int .i64 2] w (RetS (fun v w' => ∃ g, v = .agg #[.slice (some ⟨g, 0, none⟩) 4 4] ∧ IntRow w' g 4 (fun s => (Sp.grid4 4 s : Nat))) w) := by
  have hmk : ∀ w, (Instr.makeSlice 23 (.int .i64 4) (.int .i64 4)).run Tryd.prog w = _ := fun w => make_ints 4 (by omega) w
  have hkE := (Kept.refl w).alloc (.cells #[.slice none 0 0] 75)
  have BE := Blk.new w 75 #[.slice none 0 0]
  have hR := IntRow.made4 (w.alloc (.cells #[.slice none 0 0] 75))
  have hk := (Kept.refl (w.alloc (.cells #[.slice none 0 0] 75))).alloc (.cells (madeCells #[.int .i64 0] 4) 3)
  simp only [World.size_alloc] at hR
  have hR0 := hR
  have hk0 := hk
  go_enter Tryd.func52, Tryd.ntmps52
  go_wp2_with fail
  clear hmk
  refine wp_loop_rounds 3 ?_
  rw [rounds_succ]
  go_wp2_with fail
  refine wp_loop_rounds 3 ?_
  rw [rounds_succ]
  go_wp2_with fail
  refine (c_join (w.alloc (.cells #[.slice none 0 0] 75)) _ _ 0 1 4 4 (Sp.grid4 0) hR hk (by simp) (by omega) (by omega) (by omega) (by omega) (grid4_lt 0 (by omega))).mono ?_; rintro e w10 ⟨v, rfl, hR, hk⟩
  replace hR := hR.congr (f' := fun s => (Sp.grid4 1 s : Nat)) fun s hs => congrArg _ (grid_step0 s hs)
  clear hR0 hk0
  have hR0 := hR
  have hk0 := hk
  go_wp2_with fail
  refine (c_join (w.alloc (.cells #[.slice none 0 0] 75)) _ _ 0 2 4 4 (Sp.grid4 1) hR hk (by simp) (by omega) (by omega) (by omega) (by omega) (grid4_lt 1 (by omega))).mono ?_; rintro e w11 ⟨v, rfl, hR, hk⟩
  replace hR := hR.congr (f' := fun s => (Sp.grid4 2 s : Nat)) fun s hs => congrArg _ (grid_step1 s hs)
  clear hR0 hk0
  have hR0 := hR
  have hk0 := hk
  go_wp2_with fail
  rw [rounds_succ]
  go_wp2_with fail
  refine (c_join (w.alloc (.cells #[.slice none 0 0] 75)) _ _ 1 3 4 4 (Sp.grid4 2) hR hk (by simp) (by omega) (by omega) (by omega) (by omega) (grid4_lt 2 (by omega))).mono ?_; rintro e w12 ⟨v, rfl, hR, hk⟩
  replace hR := hR.congr (f' := fun s => (Sp.grid4 3 s : Nat)) fun s hs => congrArg _ (grid_step2 s hs)
  clear hR0 hk0
  have hR0 := hR
  have hk0 := hk
  go_wp2_with fail
  rw [rounds_succ]
  go_wp2_with fail
  rw [rounds_succ]
  go_wp2_with fail
  refine wp_loop_rounds 3 ?_
  rw [rounds_succ]
  go_wp2_with fail
  refine (c_join (w.alloc (.cells #[.slice none 0 0] 75)) _ _ 2 3 4 4 (Sp.grid4 3) hR hk (by simp) (by omega) (by omega) (by omega) (by omega) (grid4_lt 3 (by omega))).mono ?_; rintro e w13 ⟨v, rfl, hR, hk⟩
  replace hR := hR.congr (f' := fun s => (Sp.grid4 4 s : Nat)) fun s hs => congrArg _ (grid_step3 s hs)
  clear hR0 hk0
  have hR0 := hR
  have hk0 := hk
  go_wp2_with fail
  rw [rounds_succ]
  go_wp2_with fail
  rw [rounds_succ]
  go_wp2_with fail
  have ce := (BE.kept hk).cell 0
  have fe := (BE.kept hk).frozen 0
  rw [rounds_succ]
  go_wp2_with fail
  have c1 := World.cell?_setCell_same w13 ⟨w.heap.size, 0, none⟩ (.slice (some ⟨w.heap.size + 1, 0, none⟩) 4 4) ce
  refine bodyPost_ret (v := .agg #[.slice (some ⟨w.heap.size + 1, 0, none⟩) 4 4]) (by simp [results, Tryd.results52, go_sem, c1]) rfl ⟨_, rfl, ⟨_, rfl, hR.far (by simp) _⟩, (hkE.trans hk).setCell (p := ⟨w.heap.size, 0, none⟩) (Nat.le_refl _) _⟩

/-- the lines of a grid of four go both ways -/
theorem grid_both : ∀ k, k < 4 → ∀ j, j < 4 → (Sp.grid4 4 k).testBit j = (Sp.grid4 4 j).testBit k := by unfold Sp.grid4; decide
theorem grid_self : ∀ k, k < 4 → Sp.grid4 4 k < 16 ∧ (Sp.grid4 4 k).testBit k = false := by unfold Sp.grid4; decide

set_option maxHeartbeats 1000000 in
set_option maxRecDepth 100000 in
theorem c_gridValid (g c : Nat) (w : World) (h : IntRow w g 4 (fun s => (Sp.grid4 4 s : Nat))) : Calls Tryd.prog 111 #[.agg #[.slice (some ⟨g, 0, none⟩) 4 c]] w (RetK (.bool true) w) := by
  have hk0 := (Kept.refl w).alloc (.cells #[.slice (some ⟨g, 0, none⟩) 4 c] 75)
  have BE := Blk.new w 75 #[.slice (some ⟨g, 0, none⟩) 4 c]
  have hR := h.keep hk0
  have hs4 : ∀ T, binOp .shl T (.int .i64 1) (.int .i64 4) = pure (.int .i64 16) := fun T => by
    have := bin_shl_one 4 (by omega) T
    rw [p2_nat] at this
    exact this
  go_enter Tryd.func111, Tryd.ntmps111
  go_wp2_with fail
  obtain ⟨w1, HW1⟩ : ∃ w1, Hid (w.alloc (.cells #[.slice (some ⟨g, 0, none⟩) 4 c] 75) = w1) := ⟨_, rfl⟩
  rw [HW1.out] at hk0 BE hR ⊢
  have ce := BE.cell
  go_loop [21] (fun i => ∃ k : Nat, k ≤ 4 ∧ i = .int .i64 k) (fun i => 4 - (intOf i).toNat)
  case atStart => exact ⟨0, by omega, rfl⟩
  case round =>
    obtain ⟨k, hk, rfl⟩ := hrel
    by_cases hlt : k < 4
    · have c1 : w1.cell? ⟨g, k, none⟩ = some (.int .i64 (Sp.grid4 4 k : Nat)) := hR.2.2 k hlt
      obtain ⟨hv, hb⟩ := grid_self k hlt
      generalize Sp.grid4 4 k = V at *
      have hab := and_bit V k (by omega)
      rw [hb] at hab
      clear hb
      have hv1 : (V : Int) < 16 := by omega
      go_wp2_with fail
      exact ⟨⟨k + 1, by omega, by go_num⟩, by simp [intOf]; omega⟩
    · go_wp2_with fail
      rw [show decide ((k : Int) < 4) = false from decide_eq_false (by omega)]
      clear hs4 hlt ce
      go_loopw [45] (fun i wr => ∃ q : Nat, q ≤ 4 ∧ i = .int .i64 q ∧ Kept w1 wr) (fun i _ => 4 - (intOf i).toNat)
      case atStart => exact ⟨0, by omega, rfl, Kept.refl _⟩
      case round =>
        obtain ⟨q, hq, rfl, hkp⟩ := hrel
        by_cases hlt2 : q < 4
        · have c1 : wr.cell? ⟨g, q, none⟩ = some (.int .i64 (Sp.grid4 4 q : Nat)) := (hR.keep hkp).2.2 q hlt2
          have HV := Lib.hid (show ∀ j, j < 4 → (Sp.grid4 4 q).testBit j = (Sp.grid4 4 j).testBit q from fun j hj => grid_both q hlt2 j hj)
          have HB := Lib.hid (show Sp.grid4 4 q < 16 from (grid_self q hlt2).1)
          obtain ⟨V, HVq⟩ : ∃ V, Hid (Sp.grid4 4 q = V) := ⟨_, rfl⟩
          rw [HVq.out] at HV HB c1
          go_wp2_with fail
          try rw [show decide ((q : Int) < 4) = true from decide_eq_true (by omega)]
          clear c1
          go_loopw [51] (fun i wr => ∃ j : Nat, j ≤ 4 ∧ i = .int .i64 j ∧ Kept w1 wr) (fun i _ => 4 - (intOf i).toNat)
          case atStart => exact ⟨0, by omega, rfl, hkp⟩
          case round =>
            obtain ⟨j, hj, rfl, hkp⟩ := hrel
            by_cases hlt3 : j < 4
            · have hRd := hR.keep hkp.drew
              have c1d : wr.drew.cell? ⟨g, j, none⟩ = some (.int .i64 (Sp.grid4 4 j : Nat)) := hRd.2.2 j hlt3
              have ced := (BE.kept hkp.drew).cell 0
              have hb := HV.out j hlt3
              have hv2 := (grid_self j hlt3).1
              have hv1 := HB.out
              have hab1 := and_bit V j (by omega)
              have hkd := hkp.drew
              generalize Sp.grid4 4 j = V2 at *
              have hab2 := and_bit V2 q (by omega)
              rw [hb] at hab1
              clear hb hRd
              generalize V2.testBit q = b at *
              have hq0 : (0 : Int) ≤ (q : Int) := by omega
              have hj0 : (0 : Int) ≤ (j : Int) := by omega
              have hj1 : (j : Int) < 4 := by omega
              go_wp2_with fail
              refine wp_region_held_drew (S := fun w' => w'.cell? ⟨w.heap.size, 0, none⟩ = some (.slice (some ⟨g, 0, none⟩) 4 c) ∧ w'.cell? ⟨g, j, none⟩ = some (.int .i64 (V2 : Nat))) (by kernel_rfl) ⟨ced, c1d⟩ (fun hHeld => ?_)
              (refine take_val (i := 0) (v := .int .i64 (V : Nat)) rfl rfl (by kernel_rfl) (by kernel_rfl) (by kernel_rfl) (fun _ _ _ h => h) rfl (by intro wq hq; (try go_split_ands); go_simp; try with_reducible rfl) (hHeld) ?_; try simp only [List.setIfInBounds_toArray, List.set_cons_zero, List.set_cons_succ])
              (refine take_val (i := 1) (v := .int .i64 j) rfl rfl (by kernel_rfl) (by kernel_rfl) (by kernel_rfl) (fun _ _ _ h => h) rfl (by intro wq hq; (try go_split_ands); go_simp; try with_reducible rfl) (hHeld) ?_; try simp only [List.setIfInBounds_toArray, List.set_cons_zero, List.set_cons_succ])
              (refine take_val (i := 2) (v := .int .i64 ((V : Int) / 2 ^ j)) rfl rfl (by kernel_rfl) (by kernel_rfl) (by kernel_rfl) (fun _ _ _ h => h) rfl (by intro wq hq; (try go_split_ands); go_simp; try with_reducible rfl) (hHeld) ?_; try simp only [List.setIfInBounds_toArray, List.set_cons_zero, List.set_cons_succ])
              (refine take_val (i := 3) (v := .int .i64 (b.toNat : Nat)) rfl rfl (by kernel_rfl) (by kernel_rfl) (by kernel_rfl) (fun _ _ _ h => h) rfl (by intro wq hq; (try go_split_ands); go_simp; try with_reducible rfl) (hHeld) ?_; try simp only [List.setIfInBounds_toArray, List.set_cons_zero, List.set_cons_succ])
              (refine take_val (i := 4) (v := .pointer (some ⟨w.heap.size, 0, none⟩)) rfl rfl (by kernel_rfl) (by kernel_rfl) (by kernel_rfl) (fun _ _ _ h => h) rfl (by intro wq hq; (try go_split_ands); go_simp; try with_reducible rfl) (hHeld) ?_; try simp only [List.setIfInBounds_toArray, List.set_cons_zero, List.set_cons_succ])
              (refine take_val (i := 5) (v := .slice (some ⟨g, 0, none⟩) 4 c) rfl rfl (by kernel_rfl) (by kernel_rfl) (by kernel_rfl) (fun _ _ _ h => h) rfl (by intro wq hq; (try go_split_ands); go_simp; try with_reducible rfl) (hHeld) ?_; try simp only [List.setIfInBounds_toArray, List.set_cons_zero, List.set_cons_succ])
              (refine take_val (i := 6) (v := .int .i64 j) rfl rfl (by kernel_rfl) (by kernel_rfl) (by kernel_rfl) (fun _ _ _ h => h) rfl (by intro wq hq; (try go_split_ands); go_simp; try with_reducible rfl) (hHeld) ?_; try simp only [List.setIfInBounds_toArray, List.set_cons_zero, List.set_cons_succ])
              (refine take_val (i := 7) (v := .pointer (some ⟨g, j, none⟩)) rfl rfl (by kernel_rfl) (by kernel_rfl) (by kernel_rfl) (fun _ _ _ h => h) rfl (by intro wq hq; (try go_split_ands); go_simp; try with_reducible rfl) (hHeld) ?_; try simp only [List.setIfInBounds_toArray, List.set_cons_zero, List.set_cons_succ])
              (refine take_val (i := 8) (v := .int .i64 (V2 : Nat)) rfl rfl (by kernel_rfl) (by kernel_rfl) (by kernel_rfl) (fun _ _ _ h => h) rfl (by intro wq hq; (try go_split_ands); go_simp; try with_reducible rfl) (hHeld) ?_; try simp only [List.setIfInBounds_toArray, List.set_cons_zero, List.set_cons_succ])
              (refine take_val (i := 9) (v := .int .i64 q) rfl rfl (by kernel_rfl) (by kernel_rfl) (by kernel_rfl) (fun _ _ _ h => h) rfl (by intro wq hq; (try go_split_ands); go_simp; try with_reducible rfl) (hHeld) ?_; try simp only [List.setIfInBounds_toArray, List.set_cons_zero, List.set_cons_succ])
              (refine take_val (i := 10) (v := .int .i64 ((V2 : Int) / 2 ^ q)) rfl rfl (by kernel_rfl) (by kernel_rfl) (by kernel_rfl) (fun _ _ _ h => h) rfl (by intro wq hq; (try go_split_ands); go_simp; try with_reducible rfl) (hHeld) ?_; try simp only [List.setIfInBounds_toArray, List.set_cons_zero, List.set_cons_succ])
              (refine take_val (i := 11) (v := .int .i64 (b.toNat : Nat)) rfl rfl (by kernel_rfl) (by kernel_rfl) (by kernel_rfl) (fun _ _ _ h => h) rfl (by intro wq hq; (try go_split_ands); go_simp; try with_reducible rfl) (hHeld) ?_; try simp only [List.setIfInBounds_toArray, List.set_cons_zero, List.set_cons_succ])
              (refine take_val (i := 12) (v := .bool false) rfl rfl (by kernel_rfl) (by kernel_rfl) (by kernel_rfl) (fun _ _ _ h => h) rfl (by intro wq hq; (try go_split_ands); go_simp; try with_reducible rfl) (hHeld) ?_; try simp only [List.setIfInBounds_toArray, List.set_cons_zero, List.set_cons_succ])
              refine wpAnyH_done (by kernel_rfl) ?_ _
              clear c1d ced hHeld
              go_wp2_with fail
              exact ⟨⟨j + 1, by omega, by go_num, hkd⟩, by simp [intOf]; omega⟩
            · go_wp2_with fail
              exact ⟨⟨q + 1, by omega, by go_num, hkp⟩, by simp [intOf]; omega⟩
        · go_wp2_with fail
          go_ret
          exact ⟨rfl, hk0.trans hkp⟩

theorem grid_bits : ∀ k, k < 4 → cnt (Sp.grid4 4 k) = 2 := by unfold Sp.grid4; decide +kernel

set_option maxRecDepth 100000 in
theorem c_gridLines (g c : Nat) (w : World) (h : IntRow w g 4 (fun s => (Sp.grid4 4 s : Nat))) : Calls Tryd.prog 51 #[.agg #[.slice (some ⟨g, 0, none⟩) 4 c]] w (RetK (.int .i64 4) w) := by
  have hk0 := (Kept.refl w).alloc (.cells #[.slice (some ⟨g, 0, none⟩) 4 c] 75)
  have BE := Blk.new w 75 #[.slice (some ⟨g, 0, none⟩) 4 c]
  have hR := h.keep hk0
  go_enter Tryd.func51, Tryd.ntmps51
  go_wp2_with fail
  refine (c_gridValid g c _ hR).mono ?_; rintro e w2 ⟨rfl, hk2⟩
  replace hk0 := hk0.trans hk2
  replace hR := hR.keep hk2
  have ce := (BE.kept hk2).cell
  clear hk2 BE
  go_wp2_with fail
  go_loopw [12, 3] (fun i o wr => ∃ k : Nat, k ≤ 4 ∧ i = .int .i64 k ∧ o = .int .i64 ((2 * k : Nat) : Int) ∧ Kept w2 wr) (fun i _ _ => 4 - (intOf i).toNat)
  case atStart => exact ⟨0, by omega, rfl, rfl, Kept.refl _⟩
  case round =>
    obtain ⟨k, hk, rfl, rfl, hkp⟩ := hrel
    by_cases hlt : k < 4
    · have c1 : wr.cell? ⟨g, k, none⟩ = some (.int .i64 (Sp.grid4 4 k : Nat)) := (hR.keep hkp).2.2 k hlt
      obtain ⟨hv, _⟩ := grid_self k hlt
      have HB := Lib.hid (grid_bits k hlt)
      generalize Sp.grid4 4 k = V at *
      go_wp2_with fail
      refine (c_countBits (V : Int) _ (by omega) (by omega)).mono ?_; rintro e w3 ⟨rfl, rfl⟩
      rw [Int.toNat_natCast, HB.out]
      have hw : IntKind.i64.wrap (((2 * k : Nat) : Int) + ((2 : Nat) : Int)) = ((2 * (k + 1) : Nat) : Int) := by rw [IntKind.wrap_i64]; omega
      go_wp2_with fail
      exact ⟨⟨k + 1, by omega, by go_num, by rw [Value.int.injEq]; exact ⟨rfl, by omega⟩, hkp⟩, by simp [intOf]; omega⟩
    · obtain rfl : k = 4 := by omega
      go_wp2_with fail
      go_ret
      exact ⟨rfl, hk0.trans hkp⟩

set_option maxRecDepth 100000 in
theorem c_alive (w : World) : Calls Tryd.prog 13 #[] w (RetK (.bool true) w) := by
  go_enter Tryd.func13, Tryd.ntmps13
  go_wp2_with fail
  refine (c_grid w).mono ?_; rintro e w2 ⟨v, rfl, ⟨g, rfl, hR⟩, hk2⟩
  go_wp2_with fail
  refine (c_gridLines g 4 w2 hR).mono ?_; rintro e w3 ⟨rfl, hk3⟩
  go_wp2_with fail
  go_ret
  exact ⟨rfl, hk2.trans hk3⟩

end Go.Proofs.YtphdojebdclonaaDoor
