/- The law FnOnlyTurns, walked. No condition. -/
import Derived.Test.YtfbpcbjlogdflaaD9
import Derived.Test.YtfbpcbjlogdflaaA1
import Derived.Test.YtfbpcbjlogdflaaRowB
import Derived.Test.YtfbpcbjlogdflaaTake
import Derived.Deep.RegionHeld3
namespace Go.Proofs.Ytfbpcbjlogdflaa
open Go.RowKit

theorem c_iDeedDo (v : Value) (d : Sp.Deed) (s : Nat) (w : World) (h : DeedV w v d) (hd : Sp.deedOk d = true) (hs : s < 32) :
    Calls Try.prog 58 #[v, .int .i64 (s : Int)] w (RetK (.int .i64 (Sp.stepI d s)) w) := by
  obtain ⟨A, n, c, rfl, hrest⟩ := id h
  have hk0 := (Kept.refl w).alloc (.cells #[.slice A n c, .int .i64 d.on, .int .i64 d.off, .int .i64 d.flip] 54)
  have B0 := Blk.new w 54 #[.slice A n c, .int .i64 d.on, .int .i64 d.off, .int .i64 d.flip]
  have hV := h.keep hk0
  have HD := Lib.hid hd
  have hst : Hid (Sp.stOk (s : Int) = true) := by show _ = _; unfold Sp.stOk; simp; omega
  clear hrest hd
  go_enter Try.func58, Try.ntmps58
  go_wp2_with fail
  refine (c_iDeedValid _ d _ hV).mono ?_; rintro e w2 ⟨rfl, hk2⟩
  rw [HD.out]
  replace hk0 := hk0.trans hk2
  have c0 := (B0.kept hk2).cell
  replace hV := hV.keep hk2
  go_wp2_with (first | (go_at_call 76; refine (c_stateOk (s : Int) _).mono ?_; rintro e w3 ⟨rfl, rfl⟩; rw [hst.out]))
  refine (c_behindDeed _ d _ _ hV HD.out (by omega) (by omega)).mono ?_; rintro e w4 ⟨rfl, hk4⟩
  rw [Int.toNat_natCast]
  go_wp2_with fail
  go_ret
  exact ⟨rfl, hk0.trans hk4⟩

theorem turn_bit (d : Sp.Deed) (h : Sp.turnOk d = true) {s : Nat} (hs : s < 32) : Sp.run d.need s = true := by
  unfold Sp.turnOk at h
  simp only [Bool.and_eq_true, beq_iff_eq] at h
  have h1 : (Sp.truth d.need).testBit s = true := by
    rw [h.2]
    have : ∀ s : Fin 32, Nat.testBit 4294967295 s.val = true := by decide
    exact this ⟨s, hs⟩
  unfold Sp.truth at h1
  rw [Sp.testBit_setOf, Bool.and_eq_true] at h1
  exact h1.2
theorem turn_step {d : Sp.Deed} (h : Sp.turnOk d = true) {s : Nat} (hs : s < 32) : Sp.stepI d s = ((s ^^^ d.flip.toNat : Nat) : Int) := by
  have h2 := h
  unfold Sp.turnOk at h2
  simp only [Bool.and_eq_true, beq_iff_eq] at h2
  unfold Sp.stepI Sp.behind
  rw [if_pos (turn_bit d h hs), h2.1.1, h2.1.2]
  have h31 : ∀ s : Fin 32, (s.val ||| (0 : Int).toNat) &&& (31 ^^^ (0 : Int).toNat) = s.val := by decide
  have := h31 ⟨s, hs⟩
  simp only at this
  rw [this]
theorem turn_twice {d : Sp.Deed} (hd : Sp.deedOk d = true) (h : Sp.turnOk d = true) {s : Nat} (hs : s < 32) : ∃ u : Nat, u < 32 ∧ Sp.stepI d s = (u : Int) ∧ Sp.stepI d u = (s : Int) := by
  have hf := deedOk_flip hd
  have hu : s ^^^ d.flip.toNat < 32 := Nat.xor_lt_two_pow (n := 5) hs (by omega)
  refine ⟨_, hu, turn_step h hs, ?_⟩
  rw [turn_step h hu, Nat.xor_assoc, Nat.xor_self, Nat.xor_zero]
theorem only_deed {t : Sp.Task} (h : Sp.onlyTurns t = true) {k : Nat} (hk : k < t.deeds.length) : Sp.deedOk (t.deeds.getD k default) = true ∧ Sp.turnOk (t.deeds.getD k default) = true := by
  unfold Sp.onlyTurns at h
  rw [Bool.and_eq_true] at h
  refine ⟨Sp.taskOk_deed h.1 hk, ?_⟩
  have := List.all_eq_true.1 h.2 (t.deeds.getD k default) (by simp [List.getD, hk])
  exact this
theorem only_tail {st : Int} {g : List Int} {d : Sp.Deed} {ds : List Sp.Deed} (h : Sp.onlyTurns ⟨st, g, d :: ds⟩ = true) : Sp.onlyTurns ⟨st, g, ds⟩ = true := by
  unfold Sp.onlyTurns Sp.taskOk at *
  simp only [Bool.and_eq_true, List.all_cons, List.length_cons, decide_eq_true_eq] at *
  exact ⟨⟨⟨h.1.1.1, by omega⟩, h.1.2.2⟩, h.2.2⟩

/-- a task without its first deed -/
theorem task_tail {w : World} {A1 : Option Addr} {m1 c1 b off n' c' : Nat} {t : Sp.Task} (h : TaskV w (.agg #[.int .i64 t.start, .slice A1 m1 c1, .slice (some ⟨b, off, none⟩) n' c']) t) (hok : Sp.onlyTurns t = true) (hn : 0 < n') (hc : n' ≤ c') :
    ∃ t2, TaskV w (.agg #[.int .i64 t.start, .slice A1 m1 c1, .slice (if c' = 1 then some ⟨b, off, none⟩ else some ⟨b, off + 4, none⟩) (n' - 1) (c' - 1)]) t2 ∧ Sp.onlyTurns t2 = true := by
  have hG := h.goal
  have hD := h.deeds
  have hst : Sp.inI t.start := by obtain ⟨_, _, _, _, _, _, _, _, _, hi⟩ := h; exact hi
  obtain ⟨st, g, ds⟩ := t
  cases ds with
  | nil => have := hD.len; simp at this; omega
  | cons d ds =>
    have hl : ds.length + 1 = n' := hD.len
    refine ⟨⟨st, g, ds⟩, ⟨A1, m1, c1, _, n' - 1, c' - 1, rfl, hG, ⟨by show ds.length = _; omega, by have := hD.le; unfold maxLen; omega, fun h0 => ?_⟩, hst⟩, only_tail hok⟩
    obtain ⟨b2, off2, e, hb, hcell⟩ := hD.2.2 hn
    simp only [Option.some.injEq, Addr.mk.injEq] at e
    obtain ⟨rfl, rfl, _⟩ := e
    refine ⟨b, off + 4, by rw [if_neg (by omega)], hb, fun k hk => ?_⟩
    have := hcell (k + 1) (by omega)
    rw [show off + 4 + k * 4 = off + (k + 1) * 4 by omega]
    simpa using this

set_option maxHeartbeats 1000000 in
set_option maxRecDepth 100000 in
theorem l_OnlyTurns (A : Option Addr) (n c : Nat) (w : World) (h : BytesV w A n ∧ n ≤ c ∧ c ≤ maxLen) : Calls Try.prog 15 #[.slice A n c] w (RetK (.bool true) w) := by
  by_cases hn : 1048576 < n
  · have hn1 : (1048576 : Int) < (n : Int) := by omega
    go_enter Try.func15, Try.ntmps15
    go_wp2_with fail
    go_ret
    exact ⟨rfl, Kept.refl _⟩
  have hn1 : ¬ (1048576 : Int) < (n : Int) := by omega
  go_enter Try.func15, Try.ntmps15
  go_wp2_with fail
  refine (c_drawTurns A n c w h).mono ?_; rintro e w2 ⟨tv, rfl, ⟨t, hTV, hcap0⟩, hk2⟩
  obtain ⟨A1, m1, c1, A', n', c', rfl⟩ := hTV.form
  have HCap := Lib.hid (hcap0 _ _ _ _ _ _ rfl)
  clear hcap0
  have hk0 := hk2.alloc (.cells #[.int .i64 t.start, .slice A1 m1 c1, .slice A' n' c'] 30)
  have hT := hTV.keep ((Kept.refl w2).alloc (.cells #[.int .i64 t.start, .slice A1 m1 c1, .slice A' n' c'] 30))
  have B0 := Blk.new w2 30 #[.int .i64 t.start, .slice A1 m1 c1, .slice A' n' c']
  clear hk2 hTV
  go_wp2_with fail
  refine (c_iOnlyTurns _ t _ hT).mono ?_; rintro e w3 ⟨rfl, hk3⟩
  replace hk0 := hk0.trans hk3
  replace B0 := B0.kept hk3
  replace hT := hT.keep hk3
  clear hk3
  have c0 := B0.cell
  go_wp2_with fail
  refine (c_sOnlyTurns _ t _ hT).mono ?_; rintro e w4 ⟨rfl, hk4⟩
  replace hk0 := hk0.trans hk4
  replace B0 := B0.kept hk4
  replace hT := hT.keep hk4
  clear hk4 c0
  cases hok : Sp.onlyTurns t
  · clear hok
    go_wp2_with fail
    refine (c_alive _).mono ?_; rintro e w5 ⟨rfl, hk5⟩
    go_wp2_with fail
    go_ret
    exact ⟨rfl, hk0.trans hk5⟩
  have HK := Lib.hid hok
  have hnl := hT.deeds.le
  have HL := Lib.hid hT.deeds.len
  clear hok
  go_wp2_with fail
  go_loopw [5] (fun i wr => ∃ k : Nat, k ≤ n' ∧ i = .int .i64 k ∧ Kept w4 wr) (fun i _ => n' - (intOf i).toNat)
  case atStart => exact ⟨0, Nat.zero_le _, rfl, Kept.refl _⟩
  case round =>
    obtain ⟨k, hk, rfl, hkp⟩ := hrel
    have c0 := (B0.kept hkp).cell
    by_cases hlt : k < n'
    · obtain ⟨b, off, rfl, hb, hc⟩ := hT.deeds.at hlt
      have HDT := Lib.hid (only_deed HK.out (show k < t.deeds.length by rw [HL.out]; exact hlt))
      generalize t.deeds.getD k default = d at *
      have HTw := Lib.hid (fun s (hs : s < 32) => turn_twice HDT.out.1 HDT.out.2 hs)
      have HC := Lib.hid hc
      clear hc
      go_wp2_with fail
      clear c0
      go_loopw [6] (fun i wr => ∃ j : Nat, j ≤ 32 ∧ i = .int .i64 j ∧ Kept w4 wr) (fun i _ => 32 - (intOf i).toNat)
      case atStart => exact ⟨0, by omega, rfl, hkp⟩
      case round =>
        obtain ⟨j, hj, rfl, hkp⟩ := hrel
        by_cases hlt2 : j < 32
        · obtain ⟨u, hu, hx1, hx2⟩ := HTw.out j hlt2
          have HX1 := Lib.hid hx1
          have HX2 := Lib.hid hx2
          obtain ⟨A3, n3, c3, hc0, hc1, hc2, hc3, hdv⟩ := (HC.out.keep hkp hb).v
          have HDv := Lib.hid hdv
          have hbw : b < wr.heap.size := Nat.lt_of_lt_of_le hb hkp.size
          have hB := B0.kept hkp
          have HS : Hid (∀ w', Kept wr w' → (w'.cell? ⟨w2.heap.size, 2, none⟩ = some (.slice (some ⟨b, off, none⟩) n' c') ∧ w'.cell? ⟨b, off + k * 4, none⟩ = some (.slice A3 n3 c3) ∧ w'.cell? ⟨b, off + k * 4 + 1, none⟩ = some (.int .i64 d.on) ∧ w'.cell? ⟨b, off + k * 4 + 2, none⟩ = some (.int .i64 d.off) ∧ w'.cell? ⟨b, off + k * 4 + 3, none⟩ = some (.int .i64 d.flip) ∧ Kept wr w')) :=
            fun w' hk => ⟨(hB.kept hk).cell 2, by rw [hk.cell hbw]; exact hc0, by rw [hk.cell hbw]; exact hc1, by rw [hk.cell hbw]; exact hc2, by rw [hk.cell hbw]; exact hc3, hk⟩
          clear hx1 hx2 hc0 hc1 hc2 hc3 hdv hB
          go_wp2_with fail
          go_region_held3 (fun w' => w'.cell? ⟨w2.heap.size, 2, none⟩ = some (.slice (some ⟨b, off, none⟩) n' c') ∧ w'.cell? ⟨b, off + k * 4, none⟩ = some (.slice A3 n3 c3) ∧ w'.cell? ⟨b, off + k * 4 + 1, none⟩ = some (.int .i64 d.on) ∧ w'.cell? ⟨b, off + k * 4 + 2, none⟩ = some (.int .i64 d.off) ∧ w'.cell? ⟨b, off + k * 4 + 3, none⟩ = some (.int .i64 d.flip) ∧ Kept wr w')
            (first | exact HS.out _ (Kept.refl _) | exact HS.out _ (Kept.refl _).drew | exact HS.out _ (Kept.trans (by assumption) hk6))
            (first | (go_at_call 58; go_split_ands; refine (c_iDeedDo _ d _ _ (HDv.out.keep (by assumption)) HDT.out.1 (by omega)).mono ?_; rintro e w6 ⟨rfl, hk6⟩; first | rw [HX1.out] | rw [HX2.out]))
          all_goals
            go_split_ands
            go_wp2_with fail
            exact ⟨⟨j + 1, by omega, by go_num, hkp.trans (by assumption)⟩, by simp [intOf]; omega⟩
        · go_wp2_with fail
          exact ⟨⟨k + 1, by omega, by go_num, hkp⟩, by simp [intOf]; omega⟩
    · go_wp2_with fail
      have hBd := B0.kept hkp.drew
      have s0 := hBd.cell 0
      have s1 := hBd.cell 1
      have s2 := hBd.cell 2
      by_cases h0 : n' = 0
      · subst h0
        refine wp_region_held_drew (S := fun w' => w'.cell? ⟨w2.heap.size, 2, none⟩ = some (.slice A' 0 c')) (by kernel_rfl) s2 (fun hHeld => ?_)
        (refine take_val (i := 0) (v := .pointer (some ⟨w2.heap.size, 2, none⟩)) rfl rfl (by kernel_rfl) (by kernel_rfl) (by kernel_rfl) (fun _ _ _ h => h) rfl (by intro wq hq; (try go_split_ands); go_simp; try with_reducible rfl) (hHeld) ?_; simp only [List.setIfInBounds_toArray, List.set_cons_zero, List.set_cons_succ])
        (refine take_val (i := 1) (v := .slice A' 0 c') rfl rfl (by kernel_rfl) (by kernel_rfl) (by kernel_rfl) (fun _ _ _ h => h) rfl (by intro wq hq; (try go_split_ands); go_simp; try with_reducible rfl) (hHeld) ?_; simp only [List.setIfInBounds_toArray, List.set_cons_zero, List.set_cons_succ])
        (refine take_val (i := 2) (v := .int .i64 ((0 : Nat) : Int)) rfl rfl (by kernel_rfl) (by kernel_rfl) (by kernel_rfl) (fun _ _ _ h => h) rfl (by intro wq hq; (try go_split_ands); go_simp; try with_reducible rfl) (hHeld) ?_; simp only [List.setIfInBounds_toArray, List.set_cons_zero, List.set_cons_succ])
        (refine take_val (i := 3) (v := .bool true) rfl rfl (by kernel_rfl) (by kernel_rfl) (by kernel_rfl) (fun _ _ _ h => h) rfl (by intro wq hq; (try go_split_ands); go_simp; try with_reducible rfl) (hHeld) ?_; simp only [List.setIfInBounds_toArray, List.set_cons_zero, List.set_cons_succ])
        (refine take_val (i := 4) (v := .bool true) rfl rfl (by kernel_rfl) (by kernel_rfl) (by kernel_rfl) (fun _ _ _ h => h) rfl (by intro wq hq; (try go_split_ands); go_simp; try with_reducible rfl) (hHeld) ?_; simp only [List.setIfInBounds_toArray, List.set_cons_zero, List.set_cons_succ])
        (refine take_skip (i := 5) rfl rfl (by kernel_rfl) (by kernel_rfl) (by kernel_rfl) (fun _ _ _ h => h) rfl (hHeld) ?_; simp only [List.setIfInBounds_toArray, List.set_cons_zero, List.set_cons_succ])
        (refine take_skip (i := 6) rfl rfl (by kernel_rfl) (by kernel_rfl) (by kernel_rfl) (fun _ _ _ h => h) rfl (hHeld) ?_; simp only [List.setIfInBounds_toArray, List.set_cons_zero, List.set_cons_succ])
        (refine take_skip (i := 7) rfl rfl (by kernel_rfl) (by kernel_rfl) (by kernel_rfl) (fun _ _ _ h => h) rfl (hHeld) ?_; simp only [List.setIfInBounds_toArray, List.set_cons_zero, List.set_cons_succ])
        (refine take_skip (i := 8) rfl rfl (by kernel_rfl) (by kernel_rfl) (by kernel_rfl) (fun _ _ _ h => h) rfl (hHeld) ?_; simp only [List.setIfInBounds_toArray, List.set_cons_zero, List.set_cons_succ])
        (refine take_skip (i := 9) rfl rfl (by kernel_rfl) (by kernel_rfl) (by kernel_rfl) (fun _ _ _ h => h) rfl (hHeld) ?_; simp only [List.setIfInBounds_toArray, List.set_cons_zero, List.set_cons_succ])
        (refine take_skip (i := 10) rfl rfl (by kernel_rfl) (by kernel_rfl) (by kernel_rfl) (fun _ _ _ h => h) rfl (hHeld) ?_; simp only [List.setIfInBounds_toArray, List.set_cons_zero, List.set_cons_succ])
        (refine take_skip (i := 11) rfl rfl (by kernel_rfl) (by kernel_rfl) (by kernel_rfl) (fun _ _ _ h => h) rfl (hHeld) ?_; simp only [List.setIfInBounds_toArray, List.set_cons_zero, List.set_cons_succ])
        (refine take_skip (i := 12) rfl rfl (by kernel_rfl) (by kernel_rfl) (by kernel_rfl) (fun _ _ _ h => h) rfl (hHeld) ?_; simp only [List.setIfInBounds_toArray, List.set_cons_zero, List.set_cons_succ])
        (refine take_skip (i := 13) rfl rfl (by kernel_rfl) (by kernel_rfl) (by kernel_rfl) (fun _ _ _ h => h) rfl (hHeld) ?_; simp only [List.setIfInBounds_toArray, List.set_cons_zero, List.set_cons_succ])
        (refine take_val (i := 14) (v := .bool true) rfl rfl (by kernel_rfl) (by kernel_rfl) (by kernel_rfl) (fun _ _ _ h => h) rfl (by intro wq hq; (try go_split_ands); go_simp; try with_reducible rfl) (hHeld) ?_; simp only [List.setIfInBounds_toArray, List.set_cons_zero, List.set_cons_succ])
        (refine take_val (i := 15) (v := .bool true) rfl rfl (by kernel_rfl) (by kernel_rfl) (by kernel_rfl) (fun _ _ _ h => h) rfl (by intro wq hq; (try go_split_ands); go_simp; try with_reducible rfl) (hHeld) ?_; simp only [List.setIfInBounds_toArray, List.set_cons_zero, List.set_cons_succ])
        refine wpAnyH_done (by kernel_rfl) ?_ _
        go_wp2_with fail
        go_ret
        exact ⟨rfl, hk0.trans hkp.drew⟩
      · obtain ⟨b, off, rfl, hb, _⟩ := hT.deeds.at (show 0 < n' by omega)
        have hn0 : ((n' : Int) == 0) = false := beq_eq_false_iff_ne.2 (by omega)
        have hn2 : (1 : Int) ≤ (n' : Int) := by omega
        refine wp_region_held_drew (S := fun w' => w'.cell? ⟨w2.heap.size, 0, none⟩ = some (.int .i64 t.start) ∧ w'.cell? ⟨w2.heap.size, 1, none⟩ = some (.slice A1 m1 c1) ∧ w'.cell? ⟨w2.heap.size, 2, none⟩ = some (.slice (some ⟨b, off, none⟩) n' c')) (by kernel_rfl) ⟨s0, s1, s2⟩ (fun hHeld => ?_)
        (refine take_val (i := 0) (v := .pointer (some ⟨w2.heap.size, 2, none⟩)) rfl rfl (by kernel_rfl) (by kernel_rfl) (by kernel_rfl) (fun _ _ _ h => h) rfl (by intro wq hq; (try go_split_ands); go_simp; try with_reducible rfl) (hHeld) ?_; simp only [List.setIfInBounds_toArray, List.set_cons_zero, List.set_cons_succ])
        (refine take_val (i := 1) (v := .slice (some ⟨b, off, none⟩) n' c') rfl rfl (by kernel_rfl) (by kernel_rfl) (by kernel_rfl) (fun _ _ _ h => h) rfl (by intro wq hq; (try go_split_ands); go_simp; try with_reducible rfl) (hHeld) ?_; simp only [List.setIfInBounds_toArray, List.set_cons_zero, List.set_cons_succ])
        (refine take_val (i := 2) (v := .int .i64 (n' : Int)) rfl rfl (by kernel_rfl) (by kernel_rfl) (by kernel_rfl) (fun _ _ _ h => h) rfl (by intro wq hq; (try go_split_ands); go_simp; try with_reducible rfl) (hHeld) ?_; simp only [List.setIfInBounds_toArray, List.set_cons_zero, List.set_cons_succ])
        (refine take_val (i := 3) (v := .bool false) rfl rfl (by kernel_rfl) (by kernel_rfl) (by kernel_rfl) (fun _ _ _ h => h) rfl (by intro wq hq; (try go_split_ands); go_simp; try with_reducible rfl) (hHeld) ?_; simp only [List.setIfInBounds_toArray, List.set_cons_zero, List.set_cons_succ])
        (refine take_val (i := 4) (v := .bool false) rfl rfl (by kernel_rfl) (by kernel_rfl) (by kernel_rfl) (fun _ _ _ h => h) rfl (by intro wq hq; (try go_split_ands); go_simp; try with_reducible rfl) (hHeld) ?_; simp only [List.setIfInBounds_toArray, List.set_cons_zero, List.set_cons_succ])
        (refine take_val (i := 5) (v := .pointer (some ⟨w2.heap.size, 0, none⟩)) rfl rfl (by kernel_rfl) (by kernel_rfl) (by kernel_rfl) (fun _ _ _ h => h) rfl (by intro wq hq; (try go_split_ands); go_simp; try with_reducible rfl) (hHeld) ?_; simp only [List.setIfInBounds_toArray, List.set_cons_zero, List.set_cons_succ])
        (refine take_val (i := 6) (v := .int .i64 t.start) rfl rfl (by kernel_rfl) (by kernel_rfl) (by kernel_rfl) (fun _ _ _ h => h) rfl (by intro wq hq; (try go_split_ands); go_simp; try with_reducible rfl) (hHeld) ?_; simp only [List.setIfInBounds_toArray, List.set_cons_zero, List.set_cons_succ])
        (refine take_val (i := 7) (v := .pointer (some ⟨w2.heap.size, 1, none⟩)) rfl rfl (by kernel_rfl) (by kernel_rfl) (by kernel_rfl) (fun _ _ _ h => h) rfl (by intro wq hq; (try go_split_ands); go_simp; try with_reducible rfl) (hHeld) ?_; simp only [List.setIfInBounds_toArray, List.set_cons_zero, List.set_cons_succ])
        (refine take_val (i := 8) (v := .slice A1 m1 c1) rfl rfl (by kernel_rfl) (by kernel_rfl) (by kernel_rfl) (fun _ _ _ h => h) rfl (by intro wq hq; (try go_split_ands); go_simp; try with_reducible rfl) (hHeld) ?_; simp only [List.setIfInBounds_toArray, List.set_cons_zero, List.set_cons_succ])
        (refine take_val (i := 9) (v := .pointer (some ⟨w2.heap.size, 2, none⟩)) rfl rfl (by kernel_rfl) (by kernel_rfl) (by kernel_rfl) (fun _ _ _ h => h) rfl (by intro wq hq; (try go_split_ands); go_simp; try with_reducible rfl) (hHeld) ?_; simp only [List.setIfInBounds_toArray, List.set_cons_zero, List.set_cons_succ])
        (refine take_val (i := 10) (v := .slice (some ⟨b, off, none⟩) n' c') rfl rfl (by kernel_rfl) (by kernel_rfl) (by kernel_rfl) (fun _ _ _ h => h) rfl (by intro wq hq; (try go_split_ands); go_simp; try with_reducible rfl) (hHeld) ?_; simp only [List.setIfInBounds_toArray, List.set_cons_zero, List.set_cons_succ])
        have hcp := HCap.out (by omega)
        have hTt := task_tail (hT.keep hkp.drew) HK.out (by omega) hcp
        have hs3 : w2.heap.size < wr.drew.heap.size := hBd.lt
        (refine wpAnyH_ready (rs := [11]) (by kernel_rfl) (by simp) ?_; refine AllReadyH.cons rfl (fun K hK => ?_) AllReadyH.nil; go_simp)
        (refine hK.out _ _ (hHeld) (fun _ => ?_); clear hK K; try simp only [Act.put, List.setIfInBounds_toArray, List.set_cons_zero, List.set_cons_succ])
        (refine take_val (i := 12) (v := .agg #[.int .i64 t.start, .slice A1 m1 c1, .slice (if c' = 1 then some ⟨b, off, none⟩ else some ⟨b, off + 4, none⟩) (n' - 1) (c' - 1)]) rfl rfl (by kernel_rfl) (by kernel_rfl) (by kernel_rfl) (fun _ _ _ h => h) rfl (by intro wq hq; (try go_split_ands); go_simp; try with_reducible rfl) (hHeld) ?_; simp only [List.setIfInBounds_toArray, List.set_cons_zero, List.set_cons_succ])
        (refine wpAnyH_ready (rs := [13]) (by kernel_rfl) (by simp) ?_; refine AllReadyH.cons rfl (fun K hK => ?_) AllReadyH.nil; go_simp)
        obtain ⟨t2, hT2, hok2⟩ := hTt
        refine (c_iOnlyTurns _ t2 _ hT2).mono ?_; rintro e w6 ⟨rfl, hk6⟩
        rw [hok2]
        have hB6 := hBd.kept hk6
        have hS6 : w6.cell? ⟨w2.heap.size, 0, none⟩ = some (.int .i64 t.start) ∧ w6.cell? ⟨w2.heap.size, 1, none⟩ = some (.slice A1 m1 c1) ∧ w6.cell? ⟨w2.heap.size, 2, none⟩ = some (.slice (some ⟨b, off, none⟩) n' c') := ⟨hB6.cell 0, hB6.cell 1, hB6.cell 2⟩
        (refine hK.out _ _ (hS6) (fun _ => ?_); clear hK K; try simp only [Act.put, List.setIfInBounds_toArray, List.set_cons_zero, List.set_cons_succ])
        (refine take_val (i := 14) (v := .bool true) rfl rfl (by kernel_rfl) (by kernel_rfl) (by kernel_rfl) (fun _ _ _ h => h) rfl (by intro wq hq; (try go_split_ands); go_simp; try with_reducible rfl) (hS6) ?_; simp only [List.setIfInBounds_toArray, List.set_cons_zero, List.set_cons_succ])
        (refine take_val (i := 15) (v := .bool true) rfl rfl (by kernel_rfl) (by kernel_rfl) (by kernel_rfl) (fun _ _ _ h => h) rfl (by intro wq hq; (try go_split_ands); go_simp; try with_reducible rfl) (hS6) ?_; simp only [List.setIfInBounds_toArray, List.set_cons_zero, List.set_cons_succ])
        refine wpAnyH_done (by kernel_rfl) ?_ _
        go_wp2_with fail
        all_goals
          go_ret
          exact ⟨rfl, (hk0.trans hkp.drew).trans hk6⟩

end Go.Proofs.Ytfbpcbjlogdflaa
