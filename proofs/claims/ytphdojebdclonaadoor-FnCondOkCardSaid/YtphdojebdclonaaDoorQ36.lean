/- Joined texts. No condition. -/
import Derived.StillTailTactics
import Derived.Laws.OwnMore
import Derived.Test.YtphdojebdclonaaDoorQ22
import Derived.Test.YtphdojebdclonaaDoorQ9
import Derived.Test.YtphdojebdclonaaDoorQ31
/- The program's conditions: their values, last steps, texts. The program's conditionOf: a code as a condition; its CodeText. No condition. -/
namespace Go.Proofs.YtphdojebdclonaaDoor
set_option linter.unusedSimpArgs false
set_option linter.unusedVariables false
open Go.RowKit

/-- a tree as the program holds it -/
def condV : Sp.Cond → Value
  | .one s => .iface 150 (.agg #[.int .i64 s])
  | .neg c => .iface 148 (.agg #[condV c])
  | .two s l h => .iface 152 (.agg #[.int .i64 s, condV l, condV h])

theorem condV_form (c : Sp.Cond) : ∃ T p, condV c = .iface T p := by cases c <;> exact ⟨_, _, rfl⟩
theorem is_S (v : Value) (w : World) : (Instr.typeAssert (.iface 150 v) 94 150 true).run Tryd.prog w = .ok (.tuple #[v, .bool true]) w := by kernel_rfl
theorem no_ST (v : Value) (w : World) : (Instr.typeAssert (.iface 150 v) 94 148 true).run Tryd.prog w = .ok (.tuple #[.agg #[.nilIface], .bool false]) w := by kernel_rfl
theorem no_SJ (v : Value) (w : World) : (Instr.typeAssert (.iface 150 v) 94 152 true).run Tryd.prog w = .ok (.tuple #[.agg #[.int .i64 0, .nilIface, .nilIface], .bool false]) w := by kernel_rfl
theorem no_TS (v : Value) (w : World) : (Instr.typeAssert (.iface 148 v) 94 150 true).run Tryd.prog w = .ok (.tuple #[.agg #[.int .i64 0], .bool false]) w := by kernel_rfl
theorem is_T (v : Value) (w : World) : (Instr.typeAssert (.iface 148 v) 94 148 true).run Tryd.prog w = .ok (.tuple #[v, .bool true]) w := by kernel_rfl
theorem no_TJ (v : Value) (w : World) : (Instr.typeAssert (.iface 148 v) 94 152 true).run Tryd.prog w = .ok (.tuple #[.agg #[.int .i64 0, .nilIface, .nilIface], .bool false]) w := by kernel_rfl
theorem no_JS (v : Value) (w : World) : (Instr.typeAssert (.iface 152 v) 94 150 true).run Tryd.prog w = .ok (.tuple #[.agg #[.int .i64 0], .bool false]) w := by kernel_rfl
theorem no_JT (v : Value) (w : World) : (Instr.typeAssert (.iface 152 v) 94 148 true).run Tryd.prog w = .ok (.tuple #[.agg #[.nilIface], .bool false]) w := by kernel_rfl
theorem is_J (v : Value) (w : World) : (Instr.typeAssert (.iface 152 v) 94 152 true).run Tryd.prog w = .ok (.tuple #[v, .bool true]) w := by kernel_rfl

set_option maxHeartbeats 1000000 in
set_option maxRecDepth 100000 in
theorem c_lastStep (d : Sp.Cond) (w : World) : Calls Tryd.prog 125 #[condV d] w (RetK (.int .i64 d.last) w) := by
  have hS := is_S
  have hTS := no_TS
  have hTJ := no_TJ
  have hJS := no_JS
  have hJ := is_J
  cases d with
  | one s =>
    unfold condV
    go_enter Tryd.func125, Tryd.ntmps125
    go_wp2_with fail
    go_ret
    exact ⟨rfl, (Kept.refl _).alloc _⟩
  | neg c =>
    unfold condV
    generalize condV c = v
    go_enter Tryd.func125, Tryd.ntmps125
    go_wp2_with fail
    go_ret
    exact ⟨rfl, (Kept.refl _)⟩
  | two s l h =>
    unfold condV
    obtain ⟨T1, p1, e1⟩ := condV_form l
    obtain ⟨T2, p2, e2⟩ := condV_form h
    rw [e1, e2]
    clear e1 e2
    go_enter Tryd.func125, Tryd.ntmps125
    go_wp2_with fail
    go_ret
    exact ⟨rfl, (Kept.refl _).alloc _⟩

set_option maxHeartbeats 1000000 in
set_option maxRecDepth 100000 in
theorem c_singleText (s : Int) (w : World) (h0 : 0 ≤ s) (h6 : s ≤ 6) : Calls Tryd.prog 146 #[.int .i64 s] w (RetK (.string ⟨#[Sp.sgn s]⟩) w) := by
  obtain ⟨s, rfl⟩ := Int.eq_ofNat_of_zero_le h0
  by_cases h5 : s < 5
  · have HT := Lib.hid (sgn_one (s := (s : Int)) (by omega) (by omega))
    rw [Int.toNat_natCast] at HT
    obtain ⟨c', HC⟩ : ∃ c : Nat, Hid (c = 97 + s) := ⟨_, rfl⟩
    have hw : IntKind.i64.wrap (97 + (s : Int)) = (c' : Int) := by rw [HC.out, IntKind.wrap_i64]; omega
    have hw8 : IntKind.u8.wrap (c' : Int) = (c' : Int) := by rw [HC.out]; simp [IntKind.wrap, IntKind.bits, IntKind.signed]; omega
    have hcv := run_byte_string w c' (by rw [HC.out]; omega)
    rw [← HC.out] at HT
    obtain ⟨u, HU⟩ : ∃ u, Hid (UInt8.ofNat c' = u) := ⟨_, rfl⟩
    rw [HU.out] at HT hcv
    have n5 : ¬ (s : Int) = 5 := by omega
    have n6 : ¬ (s : Int) = 6 := by omega
    clear h6
    go_enter Tryd.func146, Tryd.ntmps146
    go_wp2_with fail
    go_ret
    exact ⟨by rw [HT.out]; rfl, (Kept.refl _).alloc _⟩
  · by_cases e : s = 5
    · subst e
      go_enter Tryd.func146, Tryd.ntmps146
      go_wp2_with fail
      go_ret
      exact ⟨rfl, (Kept.refl _)⟩
    · obtain rfl : s = 6 := by omega
      go_enter Tryd.func146, Tryd.ntmps146
      go_wp2_with fail
      go_ret
      exact ⟨rfl, (Kept.refl _)⟩

theorem takes_last {c : Sp.Cond} (h : c.ok) : 0 ≤ c.last ∧ c.last ≤ 9 := by
  cases c with
  | one s => have := h.1; have := h.2; simp only [Sp.Cond.last]; omega
  | neg c => simp only [Sp.Cond.last]; omega
  | two s l r => simp only [Sp.Cond.last]; rcases h.1 with e | e <;> omega
theorem mine_last {c : Sp.Cond} (h : c.ok) : (decide (c.mine < 3) = (c.last == 8 || c.last == 9)) ∧ (decide (c.mine < 2) = (c.last == 9)) ∧ decide (c.mine < 1) = false := by
  cases c with
  | one s =>
    obtain ⟨h0, h6⟩ := h
    have e8 : ¬ s = 8 := by omega
    have e9 : ¬ s = 9 := by omega
    simp [Sp.Cond.mine, Sp.Cond.last, e8, e9]
  | neg c => simp [Sp.Cond.mine, Sp.Cond.last]
  | two s l r =>
    rcases h.1 with rfl | rfl <;> simp [Sp.Cond.mine, Sp.Cond.last]
theorem txt_len (c : Sp.Cond) : c.txt.length ≤ 3 * c.steps.length := by
  have h := (text_len c 0).2
  unfold Sp.Cond.text at h
  rw [show decide (c.mine < 0) = false by simp] at h
  exact h

set_option maxHeartbeats 4000000 in
set_option maxRecDepth 100000 in
theorem c_partText (d : Sp.Cond) (b : Bool) (w : World) (hl : d.steps.length ≤ 40) (IH : Calls Tryd.prog 130 #[condV d] w (RetK (.string ⟨d.txt.toArray⟩) w)) : Calls Tryd.prog 147 #[condV d, .bool b] w (RetK (.string ⟨(Sp.brk b d.txt).toArray⟩) w) := by
  have HI := Lib.hid IH
  have hlen : d.txt.length ≤ 120 := by have := txt_len d; omega
  clear IH hl
  generalize condV d = v at *
  generalize d.txt = t at *
  cases b
  · go_enter Tryd.func147, Tryd.ntmps147
    go_wp2_with fail
    refine HI.out.mono ?_; rintro e w4 ⟨rfl, hk4⟩
    go_wp2_with fail
    go_ret
    exact ⟨rfl, hk4⟩
  · go_enter Tryd.func147, Tryd.ntmps147
    go_wp2_with fail
    refine HI.out.mono ?_; rintro e w4 ⟨rfl, hk4⟩
    go_wp2_with fail
    go_ret
    exact ⟨congrArg (fun x => Ending.returned (.string x)) (str_brk _), hk4⟩

set_option maxHeartbeats 4000000 in
set_option maxRecDepth 100000 in
theorem c_conditionText (d : Sp.Cond) : ∀ (w : World), d.ok → d.steps.length ≤ 40 → Calls Tryd.prog 130 #[condV d] w (RetK (.string ⟨d.txt.toArray⟩) w) := by
  induction d with
  | one s =>
    intro w hd hl
    obtain ⟨h0, h6⟩ := hd
    have hS := is_S
    unfold condV
    go_enter Tryd.func130, Tryd.ntmps130
    go_wp2_with fail
    refine (c_singleText s _ h0 h6).mono ?_; rintro e w4 ⟨rfl, hk4⟩
    go_wp2_with fail
    go_ret
    exact ⟨rfl, hk4.unbox⟩
  | neg d ih =>
    intro w hd hl
    have hl2 : d.steps.length ≤ 40 := by simp [Sp.Cond.steps] at hl; omega
    have IP := Lib.hid (fun b w => c_partText d b w hl2 (ih w hd hl2))
    have IL := Lib.hid (fun w => c_lastStep d w)
    have HM := Lib.hid (mine_last (c := d) hd).1
    have hlen : (Sp.brk (decide (d.mine < 3)) d.txt).length ≤ 122 := by
      have h1 := txt_len d; have h2 := (brk_len (decide (d.mine < 3)) d.txt).2; omega
    have hTS := no_TS
    have hT := is_T
    obtain ⟨T1, p1, e1⟩ := condV_form d
    have HF := Lib.hid e1
    show Calls Tryd.prog 130 #[.iface 148 (.agg #[condV d])] w (RetK (.string ⟨(33 :: Sp.brk (decide (d.mine < 3)) d.txt).toArray⟩) w)
    rw [e1] at IP IL ⊢
    rw [HM.out] at hlen ⊢
    obtain ⟨tx, HT⟩ : ∃ tx, Hid (Sp.brk (d.last == 8 || d.last == 9) d.txt = tx) := ⟨_, rfl⟩
    rw [HT.out] at hlen ⊢
    generalize d.last = x at *
    clear hl hl2 ih e1 HM
    obtain ⟨w1, HW1⟩ : ∃ w1, Hid (w.alloc (.cells #[.iface T1 p1] 148) = w1) := ⟨_, rfl⟩
    have hk0 := (Kept.refl w).alloc (.cells #[.iface T1 p1] 148)
    have B0 := Blk.new w 148 #[.iface T1 p1]
    rw [HW1.out] at hk0 B0
    have c0 := B0.cell 0
    go_enter Tryd.func130, Tryd.ntmps130
    go_wp2_with fail
    rw [HW1.out]
    go_wp2_with fail
    refine (IL.out w1).mono ?_; rintro e w2 ⟨rfl, hk2⟩
    have c1 := (B0.kept hk2).cell 0
    by_cases h8 : x = 8
    · subst h8
      replace HT : Hid (Sp.brk true d.txt = tx) := HT
      go_wp2_with fail
      refine (IP.out _ w2).mono ?_; rintro e w4 ⟨rfl, hk4⟩
      rw [HT.out]
      go_wp2_with fail
      go_ret
      exact ⟨congrArg (fun x => Ending.returned (.string x)) (str_add [33] tx), (hk0.trans hk2).trans hk4⟩
    · by_cases h9 : x = 9
      · subst h9
        replace HT : Hid (Sp.brk true d.txt = tx) := HT
        go_wp2_with fail
        refine (IP.out _ w2).mono ?_; rintro e w4 ⟨rfl, hk4⟩
        rw [HT.out]
        go_wp2_with fail
        go_ret
        exact ⟨congrArg (fun x => Ending.returned (.string x)) (str_add [33] tx), (hk0.trans hk2).trans hk4⟩
      · skip
        go_wp2_with fail
        refine (IP.out _ w2).mono ?_; rintro e w4 ⟨rfl, hk4⟩
        rw [HT.out]
        go_wp2_with fail
        go_ret
        exact ⟨congrArg (fun x => Ending.returned (.string x)) (str_add [33] tx), (hk0.trans hk2).trans hk4⟩
  | two s d1 d2 ih1 ih2 =>
    intro w hd hl
    obtain ⟨hs, hd1, hd2⟩ := hd
    have hl0 : d1.steps.length + d2.steps.length ≤ 39 := by simp [Sp.Cond.steps] at hl; omega
    have IP1 := Lib.hid (fun b w => c_partText d1 b w (by omega) (ih1 w hd1 (by omega)))
    have IP2 := Lib.hid (fun b w => c_partText d2 b w (by omega) (ih2 w hd2 (by omega)))
    have IL1 := Lib.hid (fun w => c_lastStep d1 w)
    have IL2 := Lib.hid (fun w => c_lastStep d2 w)
    have HM1 := Lib.hid (mine_last hd1)
    have HM2 := Lib.hid (mine_last hd2)
    have hlen1 : ∀ b, (Sp.brk b d1.txt).length ≤ 122 := fun b => by
      have h1 := txt_len d1; have h2 := (brk_len b d1.txt).2; omega
    have hlen2 : ∀ b, (Sp.brk b d2.txt).length ≤ 122 := fun b => by
      have h1 := txt_len d2; have h2 := (brk_len b d2.txt).2; omega
    have HN := Lib.hid (And.intro hlen1 hlen2)
    have hJS := no_JS
    have hJT := no_JT
    have hJ := is_J
    obtain ⟨T1, p1, e1⟩ := condV_form d1
    obtain ⟨T2, p2, e2⟩ := condV_form d2
    clear ih1 ih2 hlen1 hlen2 hl hl0 hd1 hd2
    rcases hs with rfl | rfl
    · have HT : Hid ((Sp.Cond.two 8 d1 d2).txt = Sp.brk (d1.last == 9) d1.txt ++ 38 :: Sp.brk (d2.last == 8 || d2.last == 9) d2.txt) := by
        show _ = _
        rw [← HM1.out.2.1, ← HM2.out.1]; rfl
      show Calls Tryd.prog 130 #[.iface 152 (.agg #[.int .i64 8, condV d1, condV d2])] w (RetK (.string ⟨((Sp.Cond.two 8 d1 d2).txt).toArray⟩) w)
      rw [e1] at IP1 IL1 ⊢
      rw [e2] at IP2 IL2 ⊢
      rw [HT.out]
      clear HT HM1 HM2 e1 e2
      obtain ⟨b1, hb1⟩ : ∃ b, Hid ((d1.last == 9) = b) := ⟨_, rfl⟩
      obtain ⟨b2, hb2⟩ : ∃ b, Hid ((d2.last == 8 || d2.last == 9) = b) := ⟨_, rfl⟩
      rw [hb1.out, hb2.out]
      generalize d1.last = x1 at *
      generalize d2.last = x2 at *
      have hn1 := HN.out.1 b1
      have hn2 := HN.out.2 b2
      have HJ : Hid ((⟨(Sp.brk b1 d1.txt).toArray⟩ : ByteArray) ++ ⟨#[38]⟩ ++ ⟨(Sp.brk b2 d2.txt).toArray⟩ = ⟨(Sp.brk b1 d1.txt ++ 38 :: Sp.brk b2 d2.txt).toArray⟩) := by
        show _ = _
        rw [str_add1, str_add]; simp
      have IQ1 := Lib.hid (IP1.out b1)
      have IQ2 := Lib.hid (IP2.out b2)
      generalize Sp.brk b1 d1.txt = t1 at *
      generalize Sp.brk b2 d2.txt = t2 at *
      clear IP1 IP2
      have hk0 := (Kept.refl w).alloc (.cells #[.int .i64 8, .iface T1 p1, .iface T2 p2] 152)
      have B0 := Blk.new w 152 #[.int .i64 8, .iface T1 p1, .iface T2 p2]
      go_enter Tryd.func130, Tryd.ntmps130
      go_wp2_with fail
      obtain ⟨D, HD⟩ : ∃ D, Hid (w.heap.size = D) := ⟨_, rfl⟩
      obtain ⟨w1, HW1⟩ : ∃ w1, Hid (w.alloc (.cells #[.int .i64 8, .iface T1 p1, .iface T2 p2] 152) = w1) := ⟨_, rfl⟩
      rw [HD.out, HW1.out] at B0 ⊢
      rw [HW1.out] at hk0
      have hkd := (Kept.refl w1).drew
      have B1 := B0.kept hkd
      refine wp_region_held_drew (S := (fun w' => w'.cell? ⟨D, 0, none⟩ = some (.int .i64 8) ∧ w'.cell? ⟨D, 1, none⟩ = some (.iface T1 p1) ∧ w'.cell? ⟨D, 2, none⟩ = some (.iface T2 p2))) (by kernel_rfl) ⟨B1.cell 0, B1.cell 1, B1.cell 2⟩ (fun hHeld => ?_)
      (refine take_val (i := 0) (v := .pointer (some ⟨D, 1, none⟩)) rfl rfl (by kernel_rfl) (by kernel_rfl) (by kernel_rfl) (fun _ _ _ h => h) rfl (by intro wq hq; (try go_split_ands); go_simp; try with_reducible rfl) (hHeld) ?_; try simp only [List.setIfInBounds_toArray, List.set_cons_zero, List.set_cons_succ])
      (refine take_val (i := 1) (v := .iface T1 p1) rfl rfl (by kernel_rfl) (by kernel_rfl) (by kernel_rfl) (fun _ _ _ h => h) rfl (by intro wq hq; (try go_split_ands); go_simp; try with_reducible rfl) (hHeld) ?_; try simp only [List.setIfInBounds_toArray, List.set_cons_zero, List.set_cons_succ])
      (refine take_val (i := 3) (v := .pointer (some ⟨D, 2, none⟩)) rfl rfl (by kernel_rfl) (by kernel_rfl) (by kernel_rfl) (fun _ _ _ h => h) rfl (by intro wq hq; (try go_split_ands); go_simp; try with_reducible rfl) (hHeld) ?_; try simp only [List.setIfInBounds_toArray, List.set_cons_zero, List.set_cons_succ])
      (refine take_val (i := 4) (v := .iface T2 p2) rfl rfl (by kernel_rfl) (by kernel_rfl) (by kernel_rfl) (fun _ _ _ h => h) rfl (by intro wq hq; (try go_split_ands); go_simp; try with_reducible rfl) (hHeld) ?_; try simp only [List.setIfInBounds_toArray, List.set_cons_zero, List.set_cons_succ])
      (refine wpAnyH_ready (rs := [2]) (by kernel_rfl) (by simp) ?_; refine AllReadyH.cons rfl (fun K hK => ?_) AllReadyH.nil; go_simp)
      refine (IL1.out _).mono ?_; rintro e w2 ⟨rfl, hk2⟩
      have B2 := B1.kept hk2
      (refine hK.out _ _ (⟨B2.cell 0, B2.cell 1, B2.cell 2⟩) (fun _ => ?_); clear hK K; try simp only [Act.put, List.setIfInBounds_toArray, List.set_cons_zero, List.set_cons_succ])
      (refine wpAnyH_ready (rs := [5]) (by kernel_rfl) (by simp) ?_; refine AllReadyH.cons rfl (fun K hK => ?_) AllReadyH.nil; go_simp)
      refine (IL2.out _).mono ?_; rintro e w3 ⟨rfl, hk3⟩
      have B3 := B2.kept hk3
      (refine hK.out _ _ (⟨B3.cell 0, B3.cell 1, B3.cell 2⟩) (fun _ => ?_); clear hK K; try simp only [Act.put, List.setIfInBounds_toArray, List.set_cons_zero, List.set_cons_succ])
      (refine take_val (i := 6) (v := .int .i64 x1) rfl rfl (by kernel_rfl) (by kernel_rfl) (by kernel_rfl) (fun _ _ _ h => h) rfl (by intro wq hq; (try go_split_ands); go_simp; try with_reducible rfl) (⟨B3.cell 0, B3.cell 1, B3.cell 2⟩) ?_; try simp only [List.setIfInBounds_toArray, List.set_cons_zero, List.set_cons_succ])
      (refine take_val (i := 7) (v := .int .i64 x2) rfl rfl (by kernel_rfl) (by kernel_rfl) (by kernel_rfl) (fun _ _ _ h => h) rfl (by intro wq hq; (try go_split_ands); go_simp; try with_reducible rfl) (⟨B3.cell 0, B3.cell 1, B3.cell 2⟩) ?_; try simp only [List.setIfInBounds_toArray, List.set_cons_zero, List.set_cons_succ])
      refine wpAnyH_done (by kernel_rfl) ?_ _
      have hk3' := ((hk0.trans hkd).trans hk2).trans hk3
      have c3 := B3.cell
      clear hk2 hk3 B1 B2 hHeld
      go_wp2_with fail
      clear c3
      have hkd := (Kept.refl w3).drew
      have B1 := B3.kept hkd
      by_cases h8 : x2 = 8
      · subst h8
        obtain rfl : b2 = true := hb2.out.symm
        have hB1 : (x1 == 9) = b1 := hb1.out
        refine wp_region_held_drew (S := (fun w' => w'.cell? ⟨D, 0, none⟩ = some (.int .i64 8) ∧ w'.cell? ⟨D, 1, none⟩ = some (.iface T1 p1) ∧ w'.cell? ⟨D, 2, none⟩ = some (.iface T2 p2))) (by kernel_rfl) ⟨B1.cell 0, B1.cell 1, B1.cell 2⟩ (fun hHeld => ?_)
        (refine take_val (i := 0) (v := .pointer (some ⟨D, 1, none⟩)) rfl rfl (by kernel_rfl) (by kernel_rfl) (by kernel_rfl) (fun _ _ _ h => h) rfl (by intro wq hq; (try go_split_ands); go_simp; try with_reducible rfl) (hHeld) ?_; try simp only [List.setIfInBounds_toArray, List.set_cons_zero, List.set_cons_succ])
        (refine take_val (i := 1) (v := .iface T1 p1) rfl rfl (by kernel_rfl) (by kernel_rfl) (by kernel_rfl) (fun _ _ _ h => h) rfl (by intro wq hq; (try go_split_ands); go_simp; try with_reducible rfl) (hHeld) ?_; try simp only [List.setIfInBounds_toArray, List.set_cons_zero, List.set_cons_succ])
        (refine take_val (i := 2) (v := .int .i64 x1) rfl rfl (by kernel_rfl) (by kernel_rfl) (by kernel_rfl) (fun _ _ _ h => h) rfl (by intro wq hq; (try go_split_ands); go_simp; try with_reducible rfl) (hHeld) ?_; try simp only [List.setIfInBounds_toArray, List.set_cons_zero, List.set_cons_succ])
        (refine take_val (i := 3) (v := .bool b1) rfl rfl (by kernel_rfl) (by kernel_rfl) (by kernel_rfl) (fun _ _ _ h => h) rfl (by intro wq hq; (try go_split_ands); go_simp; try with_reducible rfl) (hHeld) ?_; try simp only [List.setIfInBounds_toArray, List.set_cons_zero, List.set_cons_succ])
        (refine take_val (i := 6) (v := .pointer (some ⟨D, 2, none⟩)) rfl rfl (by kernel_rfl) (by kernel_rfl) (by kernel_rfl) (fun _ _ _ h => h) rfl (by intro wq hq; (try go_split_ands); go_simp; try with_reducible rfl) (hHeld) ?_; try simp only [List.setIfInBounds_toArray, List.set_cons_zero, List.set_cons_succ])
        (refine take_val (i := 7) (v := .iface T2 p2) rfl rfl (by kernel_rfl) (by kernel_rfl) (by kernel_rfl) (fun _ _ _ h => h) rfl (by intro wq hq; (try go_split_ands); go_simp; try with_reducible rfl) (hHeld) ?_; try simp only [List.setIfInBounds_toArray, List.set_cons_zero, List.set_cons_succ])
        (refine take_val (i := 8) (v := .int .i64 8) rfl rfl (by kernel_rfl) (by kernel_rfl) (by kernel_rfl) (fun _ _ _ h => h) rfl (by intro wq hq; (try go_split_ands); go_simp; try with_reducible rfl) (hHeld) ?_; try simp only [List.setIfInBounds_toArray, List.set_cons_zero, List.set_cons_succ])
        (refine take_val (i := 9) (v := .bool false) rfl rfl (by kernel_rfl) (by kernel_rfl) (by kernel_rfl) (fun _ _ _ h => h) rfl (by intro wq hq; (try go_split_ands); go_simp; try with_reducible rfl) (hHeld) ?_; try simp only [List.setIfInBounds_toArray, List.set_cons_zero, List.set_cons_succ])
        (refine wpAnyH_ready (rs := [4]) (by kernel_rfl) (by simp) ?_; refine AllReadyH.cons rfl (fun K hK => ?_) AllReadyH.nil; go_simp)
        refine (IQ1.out _).mono ?_; rintro e w5 ⟨rfl, hk5⟩
        have B2 := B1.kept hk5
        (refine hK.out _ _ (⟨B2.cell 0, B2.cell 1, B2.cell 2⟩) (fun _ => ?_); clear hK K; try simp only [Act.put, List.setIfInBounds_toArray, List.set_cons_zero, List.set_cons_succ])
        (refine take_val (i := 5) (v := .string (⟨t1.toArray⟩ ++ ⟨#[38]⟩)) rfl rfl (by kernel_rfl) (by kernel_rfl) (by kernel_rfl) (fun _ _ _ h => h) rfl (by intro wq hq; (try go_split_ands); go_simp; (try with_reducible rfl); (try omega)) (⟨B2.cell 0, B2.cell 1, B2.cell 2⟩) ?_; try simp only [List.setIfInBounds_toArray, List.set_cons_zero, List.set_cons_succ])
        (refine take_val (i := 10) (v := .bool false) rfl rfl (by kernel_rfl) (by kernel_rfl) (by kernel_rfl) (fun _ _ _ h => h) rfl (by intro wq hq; (try go_split_ands); go_simp; try with_reducible rfl) (⟨B2.cell 0, B2.cell 1, B2.cell 2⟩) ?_; try simp only [List.setIfInBounds_toArray, List.set_cons_zero, List.set_cons_succ])
        (refine take_val (i := 11) (v := .int .i64 8) rfl rfl (by kernel_rfl) (by kernel_rfl) (by kernel_rfl) (fun _ _ _ h => h) rfl (by intro wq hq; (try go_split_ands); go_simp; try with_reducible rfl) (⟨B2.cell 0, B2.cell 1, B2.cell 2⟩) ?_; try simp only [List.setIfInBounds_toArray, List.set_cons_zero, List.set_cons_succ])
        (refine take_val (i := 12) (v := .bool true) rfl rfl (by kernel_rfl) (by kernel_rfl) (by kernel_rfl) (fun _ _ _ h => h) rfl (by intro wq hq; (try go_split_ands); go_simp; try with_reducible rfl) (⟨B2.cell 0, B2.cell 1, B2.cell 2⟩) ?_; try simp only [List.setIfInBounds_toArray, List.set_cons_zero, List.set_cons_succ])
        (refine take_val (i := 13) (v := .bool true) rfl rfl (by kernel_rfl) (by kernel_rfl) (by kernel_rfl) (fun _ _ _ h => h) rfl (by intro wq hq; (try go_split_ands); go_simp; try with_reducible rfl) (⟨B2.cell 0, B2.cell 1, B2.cell 2⟩) ?_; try simp only [List.setIfInBounds_toArray, List.set_cons_zero, List.set_cons_succ])
        (refine wpAnyH_ready (rs := [14]) (by kernel_rfl) (by simp) ?_; refine AllReadyH.cons rfl (fun K hK => ?_) AllReadyH.nil; go_simp)
        refine (IQ2.out _).mono ?_; rintro e w6 ⟨rfl, hk6⟩
        have B4 := B2.kept hk6
        (refine hK.out _ _ (⟨B4.cell 0, B4.cell 1, B4.cell 2⟩) (fun _ => ?_); clear hK K; try simp only [Act.put, List.setIfInBounds_toArray, List.set_cons_zero, List.set_cons_succ])
        (refine take_val (i := 15) (v := .string (⟨t1.toArray⟩ ++ ⟨#[38]⟩ ++ ⟨t2.toArray⟩)) rfl rfl (by kernel_rfl) (by kernel_rfl) (by kernel_rfl) (fun _ _ _ h => h) rfl (by intro wq hq; (try go_split_ands); go_simp; (try with_reducible rfl); (try omega)) (⟨B4.cell 0, B4.cell 1, B4.cell 2⟩) ?_; try simp only [List.setIfInBounds_toArray, List.set_cons_zero, List.set_cons_succ])
        (refine take_val (i := 16) (v := .string (⟨t1.toArray⟩ ++ ⟨#[38]⟩ ++ ⟨t2.toArray⟩)) rfl rfl (by kernel_rfl) (by kernel_rfl) (by kernel_rfl) (fun _ _ _ h => h) rfl (by intro wq hq; (try go_split_ands); go_simp; (try with_reducible rfl); (try omega)) (⟨B4.cell 0, B4.cell 1, B4.cell 2⟩) ?_; try simp only [List.setIfInBounds_toArray, List.set_cons_zero, List.set_cons_succ])
        refine wpAnyH_done (by kernel_rfl) ?_ _
        go_wp2_with fail
        go_ret
        exact ⟨congrArg (fun x => Ending.returned (.string x)) HJ.out, ((hk3'.trans hkd).trans hk5).trans hk6⟩
      · by_cases h9 : x2 = 9
        · subst h9
          obtain rfl : b2 = true := hb2.out.symm
          have hB1 : (x1 == 9) = b1 := hb1.out
          refine wp_region_held_drew (S := (fun w' => w'.cell? ⟨D, 0, none⟩ = some (.int .i64 8) ∧ w'.cell? ⟨D, 1, none⟩ = some (.iface T1 p1) ∧ w'.cell? ⟨D, 2, none⟩ = some (.iface T2 p2))) (by kernel_rfl) ⟨B1.cell 0, B1.cell 1, B1.cell 2⟩ (fun hHeld => ?_)
          (refine take_val (i := 0) (v := .pointer (some ⟨D, 1, none⟩)) rfl rfl (by kernel_rfl) (by kernel_rfl) (by kernel_rfl) (fun _ _ _ h => h) rfl (by intro wq hq; (try go_split_ands); go_simp; try with_reducible rfl) (hHeld) ?_; try simp only [List.setIfInBounds_toArray, List.set_cons_zero, List.set_cons_succ])
          (refine take_val (i := 1) (v := .iface T1 p1) rfl rfl (by kernel_rfl) (by kernel_rfl) (by kernel_rfl) (fun _ _ _ h => h) rfl (by intro wq hq; (try go_split_ands); go_simp; try with_reducible rfl) (hHeld) ?_; try simp only [List.setIfInBounds_toArray, List.set_cons_zero, List.set_cons_succ])
          (refine take_val (i := 2) (v := .int .i64 x1) rfl rfl (by kernel_rfl) (by kernel_rfl) (by kernel_rfl) (fun _ _ _ h => h) rfl (by intro wq hq; (try go_split_ands); go_simp; try with_reducible rfl) (hHeld) ?_; try simp only [List.setIfInBounds_toArray, List.set_cons_zero, List.set_cons_succ])
          (refine take_val (i := 3) (v := .bool b1) rfl rfl (by kernel_rfl) (by kernel_rfl) (by kernel_rfl) (fun _ _ _ h => h) rfl (by intro wq hq; (try go_split_ands); go_simp; try with_reducible rfl) (hHeld) ?_; try simp only [List.setIfInBounds_toArray, List.set_cons_zero, List.set_cons_succ])
          (refine take_val (i := 6) (v := .pointer (some ⟨D, 2, none⟩)) rfl rfl (by kernel_rfl) (by kernel_rfl) (by kernel_rfl) (fun _ _ _ h => h) rfl (by intro wq hq; (try go_split_ands); go_simp; try with_reducible rfl) (hHeld) ?_; try simp only [List.setIfInBounds_toArray, List.set_cons_zero, List.set_cons_succ])
          (refine take_val (i := 7) (v := .iface T2 p2) rfl rfl (by kernel_rfl) (by kernel_rfl) (by kernel_rfl) (fun _ _ _ h => h) rfl (by intro wq hq; (try go_split_ands); go_simp; try with_reducible rfl) (hHeld) ?_; try simp only [List.setIfInBounds_toArray, List.set_cons_zero, List.set_cons_succ])
          (refine take_val (i := 8) (v := .int .i64 9) rfl rfl (by kernel_rfl) (by kernel_rfl) (by kernel_rfl) (fun _ _ _ h => h) rfl (by intro wq hq; (try go_split_ands); go_simp; try with_reducible rfl) (hHeld) ?_; try simp only [List.setIfInBounds_toArray, List.set_cons_zero, List.set_cons_succ])
          (refine take_val (i := 9) (v := .bool true) rfl rfl (by kernel_rfl) (by kernel_rfl) (by kernel_rfl) (fun _ _ _ h => h) rfl (by intro wq hq; (try go_split_ands); go_simp; try with_reducible rfl) (hHeld) ?_; try simp only [List.setIfInBounds_toArray, List.set_cons_zero, List.set_cons_succ])
          (refine wpAnyH_ready (rs := [4]) (by kernel_rfl) (by simp) ?_; refine AllReadyH.cons rfl (fun K hK => ?_) AllReadyH.nil; go_simp)
          refine (IQ1.out _).mono ?_; rintro e w5 ⟨rfl, hk5⟩
          have B2 := B1.kept hk5
          (refine hK.out _ _ (⟨B2.cell 0, B2.cell 1, B2.cell 2⟩) (fun _ => ?_); clear hK K; try simp only [Act.put, List.setIfInBounds_toArray, List.set_cons_zero, List.set_cons_succ])
          (refine take_val (i := 5) (v := .string (⟨t1.toArray⟩ ++ ⟨#[38]⟩)) rfl rfl (by kernel_rfl) (by kernel_rfl) (by kernel_rfl) (fun _ _ _ h => h) rfl (by intro wq hq; (try go_split_ands); go_simp; (try with_reducible rfl); (try omega)) (⟨B2.cell 0, B2.cell 1, B2.cell 2⟩) ?_; try simp only [List.setIfInBounds_toArray, List.set_cons_zero, List.set_cons_succ])
          (refine take_val (i := 10) (v := .bool true) rfl rfl (by kernel_rfl) (by kernel_rfl) (by kernel_rfl) (fun _ _ _ h => h) rfl (by intro wq hq; (try go_split_ands); go_simp; try with_reducible rfl) (⟨B2.cell 0, B2.cell 1, B2.cell 2⟩) ?_; try simp only [List.setIfInBounds_toArray, List.set_cons_zero, List.set_cons_succ])
          (refine take_skip (i := 11) rfl rfl (by kernel_rfl) (by kernel_rfl) (by kernel_rfl) (fun _ _ _ h => h) rfl (⟨B2.cell 0, B2.cell 1, B2.cell 2⟩) ?_; try simp only [List.setIfInBounds_toArray, List.set_cons_zero, List.set_cons_succ])
          (refine take_skip (i := 12) rfl rfl (by kernel_rfl) (by kernel_rfl) (by kernel_rfl) (fun _ _ _ h => h) rfl (⟨B2.cell 0, B2.cell 1, B2.cell 2⟩) ?_; try simp only [List.setIfInBounds_toArray, List.set_cons_zero, List.set_cons_succ])
          (refine take_val (i := 13) (v := .bool true) rfl rfl (by kernel_rfl) (by kernel_rfl) (by kernel_rfl) (fun _ _ _ h => h) rfl (by intro wq hq; (try go_split_ands); go_simp; try with_reducible rfl) (⟨B2.cell 0, B2.cell 1, B2.cell 2⟩) ?_; try simp only [List.setIfInBounds_toArray, List.set_cons_zero, List.set_cons_succ])
          (refine wpAnyH_ready (rs := [14]) (by kernel_rfl) (by simp) ?_; refine AllReadyH.cons rfl (fun K hK => ?_) AllReadyH.nil; go_simp)
          refine (IQ2.out _).mono ?_; rintro e w6 ⟨rfl, hk6⟩
          have B4 := B2.kept hk6
          (refine hK.out _ _ (⟨B4.cell 0, B4.cell 1, B4.cell 2⟩) (fun _ => ?_); clear hK K; try simp only [Act.put, List.setIfInBounds_toArray, List.set_cons_zero, List.set_cons_succ])
          (refine take_val (i := 15) (v := .string (⟨t1.toArray⟩ ++ ⟨#[38]⟩ ++ ⟨t2.toArray⟩)) rfl rfl (by kernel_rfl) (by kernel_rfl) (by kernel_rfl) (fun _ _ _ h => h) rfl (by intro wq hq; (try go_split_ands); go_simp; (try with_reducible rfl); (try omega)) (⟨B4.cell 0, B4.cell 1, B4.cell 2⟩) ?_; try simp only [List.setIfInBounds_toArray, List.set_cons_zero, List.set_cons_succ])
          (refine take_val (i := 16) (v := .string (⟨t1.toArray⟩ ++ ⟨#[38]⟩ ++ ⟨t2.toArray⟩)) rfl rfl (by kernel_rfl) (by kernel_rfl) (by kernel_rfl) (fun _ _ _ h => h) rfl (by intro wq hq; (try go_split_ands); go_simp; (try with_reducible rfl); (try omega)) (⟨B4.cell 0, B4.cell 1, B4.cell 2⟩) ?_; try simp only [List.setIfInBounds_toArray, List.set_cons_zero, List.set_cons_succ])
          refine wpAnyH_done (by kernel_rfl) ?_ _
          go_wp2_with fail
          go_ret
          exact ⟨congrArg (fun x => Ending.returned (.string x)) HJ.out, ((hk3'.trans hkd).trans hk5).trans hk6⟩
        · have h8' : (x2 == 8) = false := beq_eq_false_iff_ne.2 h8
          have h9' : (x2 == 9) = false := beq_eq_false_iff_ne.2 h9
          obtain rfl : b2 = false := by rw [← hb2.out, h8', h9']; rfl
          clear h8 h9
          have hB1 : (x1 == 9) = b1 := hb1.out
          refine wp_region_held_drew (S := (fun w' => w'.cell? ⟨D, 0, none⟩ = some (.int .i64 8) ∧ w'.cell? ⟨D, 1, none⟩ = some (.iface T1 p1) ∧ w'.cell? ⟨D, 2, none⟩ = some (.iface T2 p2))) (by kernel_rfl) ⟨B1.cell 0, B1.cell 1, B1.cell 2⟩ (fun hHeld => ?_)
          (refine take_val (i := 0) (v := .pointer (some ⟨D, 1, none⟩)) rfl rfl (by kernel_rfl) (by kernel_rfl) (by kernel_rfl) (fun _ _ _ h => h) rfl (by intro wq hq; (try go_split_ands); go_simp; try with_reducible rfl) (hHeld) ?_; try simp only [List.setIfInBounds_toArray, List.set_cons_zero, List.set_cons_succ])
          (refine take_val (i := 1) (v := .iface T1 p1) rfl rfl (by kernel_rfl) (by kernel_rfl) (by kernel_rfl) (fun _ _ _ h => h) rfl (by intro wq hq; (try go_split_ands); go_simp; try with_reducible rfl) (hHeld) ?_; try simp only [List.setIfInBounds_toArray, List.set_cons_zero, List.set_cons_succ])
          (refine take_val (i := 2) (v := .int .i64 x1) rfl rfl (by kernel_rfl) (by kernel_rfl) (by kernel_rfl) (fun _ _ _ h => h) rfl (by intro wq hq; (try go_split_ands); go_simp; try with_reducible rfl) (hHeld) ?_; try simp only [List.setIfInBounds_toArray, List.set_cons_zero, List.set_cons_succ])
          (refine take_val (i := 3) (v := .bool b1) rfl rfl (by kernel_rfl) (by kernel_rfl) (by kernel_rfl) (fun _ _ _ h => h) rfl (by intro wq hq; (try go_split_ands); go_simp; try with_reducible rfl) (hHeld) ?_; try simp only [List.setIfInBounds_toArray, List.set_cons_zero, List.set_cons_succ])
          (refine take_val (i := 6) (v := .pointer (some ⟨D, 2, none⟩)) rfl rfl (by kernel_rfl) (by kernel_rfl) (by kernel_rfl) (fun _ _ _ h => h) rfl (by intro wq hq; (try go_split_ands); go_simp; try with_reducible rfl) (hHeld) ?_; try simp only [List.setIfInBounds_toArray, List.set_cons_zero, List.set_cons_succ])
          (refine take_val (i := 7) (v := .iface T2 p2) rfl rfl (by kernel_rfl) (by kernel_rfl) (by kernel_rfl) (fun _ _ _ h => h) rfl (by intro wq hq; (try go_split_ands); go_simp; try with_reducible rfl) (hHeld) ?_; try simp only [List.setIfInBounds_toArray, List.set_cons_zero, List.set_cons_succ])
          (refine take_val (i := 8) (v := .int .i64 x2) rfl rfl (by kernel_rfl) (by kernel_rfl) (by kernel_rfl) (fun _ _ _ h => h) rfl (by intro wq hq; (try go_split_ands); go_simp; try with_reducible rfl) (hHeld) ?_; try simp only [List.setIfInBounds_toArray, List.set_cons_zero, List.set_cons_succ])
          (refine take_val (i := 9) (v := .bool false) rfl rfl (by kernel_rfl) (by kernel_rfl) (by kernel_rfl) (fun _ _ _ h => h) rfl (by intro wq hq; (try go_split_ands); go_simp; try with_reducible rfl) (hHeld) ?_; try simp only [List.setIfInBounds_toArray, List.set_cons_zero, List.set_cons_succ])
          (refine wpAnyH_ready (rs := [4]) (by kernel_rfl) (by simp) ?_; refine AllReadyH.cons rfl (fun K hK => ?_) AllReadyH.nil; go_simp)
          refine (IQ1.out _).mono ?_; rintro e w5 ⟨rfl, hk5⟩
          have B2 := B1.kept hk5
          (refine hK.out _ _ (⟨B2.cell 0, B2.cell 1, B2.cell 2⟩) (fun _ => ?_); clear hK K; try simp only [Act.put, List.setIfInBounds_toArray, List.set_cons_zero, List.set_cons_succ])
          (refine take_val (i := 5) (v := .string (⟨t1.toArray⟩ ++ ⟨#[38]⟩)) rfl rfl (by kernel_rfl) (by kernel_rfl) (by kernel_rfl) (fun _ _ _ h => h) rfl (by intro wq hq; (try go_split_ands); go_simp; (try with_reducible rfl); (try omega)) (⟨B2.cell 0, B2.cell 1, B2.cell 2⟩) ?_; try simp only [List.setIfInBounds_toArray, List.set_cons_zero, List.set_cons_succ])
          (refine take_val (i := 10) (v := .bool false) rfl rfl (by kernel_rfl) (by kernel_rfl) (by kernel_rfl) (fun _ _ _ h => h) rfl (by intro wq hq; (try go_split_ands); go_simp; try with_reducible rfl) (⟨B2.cell 0, B2.cell 1, B2.cell 2⟩) ?_; try simp only [List.setIfInBounds_toArray, List.set_cons_zero, List.set_cons_succ])
          (refine take_val (i := 11) (v := .int .i64 x2) rfl rfl (by kernel_rfl) (by kernel_rfl) (by kernel_rfl) (fun _ _ _ h => h) rfl (by intro wq hq; (try go_split_ands); go_simp; try with_reducible rfl) (⟨B2.cell 0, B2.cell 1, B2.cell 2⟩) ?_; try simp only [List.setIfInBounds_toArray, List.set_cons_zero, List.set_cons_succ])
          (refine take_val (i := 12) (v := .bool false) rfl rfl (by kernel_rfl) (by kernel_rfl) (by kernel_rfl) (fun _ _ _ h => h) rfl (by intro wq hq; (try go_split_ands); go_simp; try with_reducible rfl) (⟨B2.cell 0, B2.cell 1, B2.cell 2⟩) ?_; try simp only [List.setIfInBounds_toArray, List.set_cons_zero, List.set_cons_succ])
          (refine take_val (i := 13) (v := .bool false) rfl rfl (by kernel_rfl) (by kernel_rfl) (by kernel_rfl) (fun _ _ _ h => h) rfl (by intro wq hq; (try go_split_ands); go_simp; try with_reducible rfl) (⟨B2.cell 0, B2.cell 1, B2.cell 2⟩) ?_; try simp only [List.setIfInBounds_toArray, List.set_cons_zero, List.set_cons_succ])
          (refine wpAnyH_ready (rs := [14]) (by kernel_rfl) (by simp) ?_; refine AllReadyH.cons rfl (fun K hK => ?_) AllReadyH.nil; go_simp)
          refine (IQ2.out _).mono ?_; rintro e w6 ⟨rfl, hk6⟩
          have B4 := B2.kept hk6
          (refine hK.out _ _ (⟨B4.cell 0, B4.cell 1, B4.cell 2⟩) (fun _ => ?_); clear hK K; try simp only [Act.put, List.setIfInBounds_toArray, List.set_cons_zero, List.set_cons_succ])
          (refine take_val (i := 15) (v := .string (⟨t1.toArray⟩ ++ ⟨#[38]⟩ ++ ⟨t2.toArray⟩)) rfl rfl (by kernel_rfl) (by kernel_rfl) (by kernel_rfl) (fun _ _ _ h => h) rfl (by intro wq hq; (try go_split_ands); go_simp; (try with_reducible rfl); (try omega)) (⟨B4.cell 0, B4.cell 1, B4.cell 2⟩) ?_; try simp only [List.setIfInBounds_toArray, List.set_cons_zero, List.set_cons_succ])
          (refine take_val (i := 16) (v := .string (⟨t1.toArray⟩ ++ ⟨#[38]⟩ ++ ⟨t2.toArray⟩)) rfl rfl (by kernel_rfl) (by kernel_rfl) (by kernel_rfl) (fun _ _ _ h => h) rfl (by intro wq hq; (try go_split_ands); go_simp; (try with_reducible rfl); (try omega)) (⟨B4.cell 0, B4.cell 1, B4.cell 2⟩) ?_; try simp only [List.setIfInBounds_toArray, List.set_cons_zero, List.set_cons_succ])
          refine wpAnyH_done (by kernel_rfl) ?_ _
          go_wp2_with fail
          go_ret
          exact ⟨congrArg (fun x => Ending.returned (.string x)) HJ.out, ((hk3'.trans hkd).trans hk5).trans hk6⟩
    · have HT : Hid ((Sp.Cond.two 9 d1 d2).txt = Sp.brk false d1.txt ++ 124 :: Sp.brk (d2.last == 9) d2.txt) := by
        show _ = _
        rw [← HM1.out.2.2, ← HM2.out.2.1]; rfl
      show Calls Tryd.prog 130 #[.iface 152 (.agg #[.int .i64 9, condV d1, condV d2])] w (RetK (.string ⟨((Sp.Cond.two 9 d1 d2).txt).toArray⟩) w)
      rw [e1] at IP1 IL1 ⊢
      rw [e2] at IP2 IL2 ⊢
      rw [HT.out]
      clear HT HM1 HM2 e1 e2
      obtain ⟨b1, hb1⟩ : ∃ b, Hid (false = b) := ⟨_, rfl⟩
      obtain ⟨b2, hb2⟩ : ∃ b, Hid ((d2.last == 9) = b) := ⟨_, rfl⟩
      rw [hb1.out, hb2.out]
      generalize d1.last = x1 at *
      generalize d2.last = x2 at *
      have hn1 := HN.out.1 b1
      have hn2 := HN.out.2 b2
      have HJ : Hid ((⟨(Sp.brk b1 d1.txt).toArray⟩ : ByteArray) ++ ⟨#[124]⟩ ++ ⟨(Sp.brk b2 d2.txt).toArray⟩ = ⟨(Sp.brk b1 d1.txt ++ 124 :: Sp.brk b2 d2.txt).toArray⟩) := by
        show _ = _
        rw [str_add1, str_add]; simp
      have IQ1 := Lib.hid (IP1.out b1)
      have IQ2 := Lib.hid (IP2.out b2)
      generalize Sp.brk b1 d1.txt = t1 at *
      generalize Sp.brk b2 d2.txt = t2 at *
      clear IP1 IP2
      have hk0 := (Kept.refl w).alloc (.cells #[.int .i64 9, .iface T1 p1, .iface T2 p2] 152)
      have B0 := Blk.new w 152 #[.int .i64 9, .iface T1 p1, .iface T2 p2]
      go_enter Tryd.func130, Tryd.ntmps130
      go_wp2_with fail
      obtain ⟨D, HD⟩ : ∃ D, Hid (w.heap.size = D) := ⟨_, rfl⟩
      obtain ⟨w1, HW1⟩ : ∃ w1, Hid (w.alloc (.cells #[.int .i64 9, .iface T1 p1, .iface T2 p2] 152) = w1) := ⟨_, rfl⟩
      rw [HD.out, HW1.out] at B0 ⊢
      rw [HW1.out] at hk0
      have hkd := (Kept.refl w1).drew
      have B1 := B0.kept hkd
      refine wp_region_held_drew (S := (fun w' => w'.cell? ⟨D, 0, none⟩ = some (.int .i64 9) ∧ w'.cell? ⟨D, 1, none⟩ = some (.iface T1 p1) ∧ w'.cell? ⟨D, 2, none⟩ = some (.iface T2 p2))) (by kernel_rfl) ⟨B1.cell 0, B1.cell 1, B1.cell 2⟩ (fun hHeld => ?_)
      (refine take_val (i := 0) (v := .pointer (some ⟨D, 1, none⟩)) rfl rfl (by kernel_rfl) (by kernel_rfl) (by kernel_rfl) (fun _ _ _ h => h) rfl (by intro wq hq; (try go_split_ands); go_simp; try with_reducible rfl) (hHeld) ?_; try simp only [List.setIfInBounds_toArray, List.set_cons_zero, List.set_cons_succ])
      (refine take_val (i := 1) (v := .iface T1 p1) rfl rfl (by kernel_rfl) (by kernel_rfl) (by kernel_rfl) (fun _ _ _ h => h) rfl (by intro wq hq; (try go_split_ands); go_simp; try with_reducible rfl) (hHeld) ?_; try simp only [List.setIfInBounds_toArray, List.set_cons_zero, List.set_cons_succ])
      (refine take_val (i := 3) (v := .pointer (some ⟨D, 2, none⟩)) rfl rfl (by kernel_rfl) (by kernel_rfl) (by kernel_rfl) (fun _ _ _ h => h) rfl (by intro wq hq; (try go_split_ands); go_simp; try with_reducible rfl) (hHeld) ?_; try simp only [List.setIfInBounds_toArray, List.set_cons_zero, List.set_cons_succ])
      (refine take_val (i := 4) (v := .iface T2 p2) rfl rfl (by kernel_rfl) (by kernel_rfl) (by kernel_rfl) (fun _ _ _ h => h) rfl (by intro wq hq; (try go_split_ands); go_simp; try with_reducible rfl) (hHeld) ?_; try simp only [List.setIfInBounds_toArray, List.set_cons_zero, List.set_cons_succ])
      (refine wpAnyH_ready (rs := [2]) (by kernel_rfl) (by simp) ?_; refine AllReadyH.cons rfl (fun K hK => ?_) AllReadyH.nil; go_simp)
      refine (IL1.out _).mono ?_; rintro e w2 ⟨rfl, hk2⟩
      have B2 := B1.kept hk2
      (refine hK.out _ _ (⟨B2.cell 0, B2.cell 1, B2.cell 2⟩) (fun _ => ?_); clear hK K; try simp only [Act.put, List.setIfInBounds_toArray, List.set_cons_zero, List.set_cons_succ])
      (refine wpAnyH_ready (rs := [5]) (by kernel_rfl) (by simp) ?_; refine AllReadyH.cons rfl (fun K hK => ?_) AllReadyH.nil; go_simp)
      refine (IL2.out _).mono ?_; rintro e w3 ⟨rfl, hk3⟩
      have B3 := B2.kept hk3
      (refine hK.out _ _ (⟨B3.cell 0, B3.cell 1, B3.cell 2⟩) (fun _ => ?_); clear hK K; try simp only [Act.put, List.setIfInBounds_toArray, List.set_cons_zero, List.set_cons_succ])
      (refine take_val (i := 6) (v := .int .i64 x1) rfl rfl (by kernel_rfl) (by kernel_rfl) (by kernel_rfl) (fun _ _ _ h => h) rfl (by intro wq hq; (try go_split_ands); go_simp; try with_reducible rfl) (⟨B3.cell 0, B3.cell 1, B3.cell 2⟩) ?_; try simp only [List.setIfInBounds_toArray, List.set_cons_zero, List.set_cons_succ])
      (refine take_val (i := 7) (v := .int .i64 x2) rfl rfl (by kernel_rfl) (by kernel_rfl) (by kernel_rfl) (fun _ _ _ h => h) rfl (by intro wq hq; (try go_split_ands); go_simp; try with_reducible rfl) (⟨B3.cell 0, B3.cell 1, B3.cell 2⟩) ?_; try simp only [List.setIfInBounds_toArray, List.set_cons_zero, List.set_cons_succ])
      refine wpAnyH_done (by kernel_rfl) ?_ _
      have hk3' := ((hk0.trans hkd).trans hk2).trans hk3
      have c3 := B3.cell
      clear hk2 hk3 B1 B2 hHeld
      go_wp2_with fail
      clear c3
      have hkd := (Kept.refl w3).drew
      have B1 := B3.kept hkd
      have hB2 : (x2 == 9) = b2 := hb2.out
      obtain rfl : b1 = false := hb1.out.symm
      refine wp_region_held_drew (S := (fun w' => w'.cell? ⟨D, 0, none⟩ = some (.int .i64 9) ∧ w'.cell? ⟨D, 1, none⟩ = some (.iface T1 p1) ∧ w'.cell? ⟨D, 2, none⟩ = some (.iface T2 p2))) (by kernel_rfl) ⟨B1.cell 0, B1.cell 1, B1.cell 2⟩ (fun hHeld => ?_)
      (refine take_val (i := 0) (v := .pointer (some ⟨D, 1, none⟩)) rfl rfl (by kernel_rfl) (by kernel_rfl) (by kernel_rfl) (fun _ _ _ h => h) rfl (by intro wq hq; (try go_split_ands); go_simp; try with_reducible rfl) (hHeld) ?_; try simp only [List.setIfInBounds_toArray, List.set_cons_zero, List.set_cons_succ])
      (refine take_val (i := 1) (v := .iface T1 p1) rfl rfl (by kernel_rfl) (by kernel_rfl) (by kernel_rfl) (fun _ _ _ h => h) rfl (by intro wq hq; (try go_split_ands); go_simp; try with_reducible rfl) (hHeld) ?_; try simp only [List.setIfInBounds_toArray, List.set_cons_zero, List.set_cons_succ])
      (refine take_val (i := 4) (v := .pointer (some ⟨D, 2, none⟩)) rfl rfl (by kernel_rfl) (by kernel_rfl) (by kernel_rfl) (fun _ _ _ h => h) rfl (by intro wq hq; (try go_split_ands); go_simp; try with_reducible rfl) (hHeld) ?_; try simp only [List.setIfInBounds_toArray, List.set_cons_zero, List.set_cons_succ])
      (refine take_val (i := 5) (v := .iface T2 p2) rfl rfl (by kernel_rfl) (by kernel_rfl) (by kernel_rfl) (fun _ _ _ h => h) rfl (by intro wq hq; (try go_split_ands); go_simp; try with_reducible rfl) (hHeld) ?_; try simp only [List.setIfInBounds_toArray, List.set_cons_zero, List.set_cons_succ])
      (refine take_val (i := 6) (v := .int .i64 x2) rfl rfl (by kernel_rfl) (by kernel_rfl) (by kernel_rfl) (fun _ _ _ h => h) rfl (by intro wq hq; (try go_split_ands); go_simp; try with_reducible rfl) (hHeld) ?_; try simp only [List.setIfInBounds_toArray, List.set_cons_zero, List.set_cons_succ])
      (refine take_val (i := 7) (v := .bool b2) rfl rfl (by kernel_rfl) (by kernel_rfl) (by kernel_rfl) (fun _ _ _ h => h) rfl (by intro wq hq; (try go_split_ands); go_simp; try with_reducible rfl) (hHeld) ?_; try simp only [List.setIfInBounds_toArray, List.set_cons_zero, List.set_cons_succ])
      (refine wpAnyH_ready (rs := [2]) (by kernel_rfl) (by simp) ?_; refine AllReadyH.cons rfl (fun K hK => ?_) AllReadyH.nil; go_simp)
      refine (IQ1.out _).mono ?_; rintro e w5 ⟨rfl, hk5⟩
      have B2 := B1.kept hk5
      (refine hK.out _ _ (⟨B2.cell 0, B2.cell 1, B2.cell 2⟩) (fun _ => ?_); clear hK K; try simp only [Act.put, List.setIfInBounds_toArray, List.set_cons_zero, List.set_cons_succ])
      (refine take_val (i := 3) (v := .string (⟨t1.toArray⟩ ++ ⟨#[124]⟩)) rfl rfl (by kernel_rfl) (by kernel_rfl) (by kernel_rfl) (fun _ _ _ h => h) rfl (by intro wq hq; (try go_split_ands); go_simp; (try with_reducible rfl); (try omega)) (⟨B2.cell 0, B2.cell 1, B2.cell 2⟩) ?_; try simp only [List.setIfInBounds_toArray, List.set_cons_zero, List.set_cons_succ])
      (refine wpAnyH_ready (rs := [8]) (by kernel_rfl) (by simp) ?_; refine AllReadyH.cons rfl (fun K hK => ?_) AllReadyH.nil; go_simp)
      refine (IQ2.out _).mono ?_; rintro e w6 ⟨rfl, hk6⟩
      have B4 := B2.kept hk6
      (refine hK.out _ _ (⟨B4.cell 0, B4.cell 1, B4.cell 2⟩) (fun _ => ?_); clear hK K; try simp only [Act.put, List.setIfInBounds_toArray, List.set_cons_zero, List.set_cons_succ])
      (refine take_val (i := 9) (v := .string (⟨t1.toArray⟩ ++ ⟨#[124]⟩ ++ ⟨t2.toArray⟩)) rfl rfl (by kernel_rfl) (by kernel_rfl) (by kernel_rfl) (fun _ _ _ h => h) rfl (by intro wq hq; (try go_split_ands); go_simp; (try with_reducible rfl); (try omega)) (⟨B4.cell 0, B4.cell 1, B4.cell 2⟩) ?_; try simp only [List.setIfInBounds_toArray, List.set_cons_zero, List.set_cons_succ])
      (refine take_val (i := 10) (v := .string (⟨t1.toArray⟩ ++ ⟨#[124]⟩ ++ ⟨t2.toArray⟩)) rfl rfl (by kernel_rfl) (by kernel_rfl) (by kernel_rfl) (fun _ _ _ h => h) rfl (by intro wq hq; (try go_split_ands); go_simp; (try with_reducible rfl); (try omega)) (⟨B4.cell 0, B4.cell 1, B4.cell 2⟩) ?_; try simp only [List.setIfInBounds_toArray, List.set_cons_zero, List.set_cons_succ])
      refine wpAnyH_done (by kernel_rfl) ?_ _
      go_wp2_with fail
      go_ret
      exact ⟨congrArg (fun x => Ending.returned (.string x)) HJ.out, ((hk3'.trans hkd).trans hk5).trans hk6⟩

end Go.Proofs.YtphdojebdclonaaDoor

namespace Go.Proofs.YtphdojebdclonaaDoor
set_option linter.unusedSimpArgs false
set_option linter.unusedVariables false
open Go.RowKit

/-- one step of a code upon the trees so far -/
theorem step_cases {l : List Int} (h : Sp.codeOk l = true) {k : Nat} (hk : k < l.length) : (∀ d ∈ Sp.treesOf (l.take k), d.ok) ∧
    ((l.getD k default = 7 ∧ ∃ x xs, Sp.treesOf (l.take k) = x :: xs ∧ Sp.treesOf (l.take (k + 1)) = .neg x :: xs) ∨
     ((l.getD k default = 8 ∨ l.getD k default = 9) ∧ ∃ x y xs, Sp.treesOf (l.take k) = x :: y :: xs ∧ Sp.treesOf (l.take (k + 1)) = .two (l.getD k default) y x :: xs) ∨
     (0 ≤ l.getD k default ∧ l.getD k default ≤ 6 ∧ Sp.treesOf (l.take (k + 1)) = .one (l.getD k default) :: Sp.treesOf (l.take k))) := by
  obtain ⟨q, hq, h1, _, _⟩ := (Sp.codeOk_iff l).1 h
  have hnn : ∀ j, Sp.depthOf (l.take j) ≠ none := fun j e => by rw [Sp.depth_take_none l j e] at hq; cases hq
  cases hp : Sp.depthOf (l.take k) with
  | none => exact absurd hp (hnn k)
  | some p =>
    obtain ⟨i1, i2, _, _⟩ := trees_at l k p hp
    have hn := hnn (k + 1)
    rw [Sp.depth_snoc l k hk, hp] at hn
    have hc : 0 ≤ l.getD k default ∧ l.getD k default ≤ 9 ∧ Sp.takes (l.getD k default) ≤ p.1 := by
      simp only [Sp.dstep] at hn
      split at hn
      · assumption
      · exact absurd rfl hn
    rw [trees_snoc l k hk]
    generalize Sp.treesOf (l.take k) = st at *
    generalize l.getD k default = c at *
    obtain ⟨c1, c2, c3⟩ := hc
    refine ⟨i2, ?_⟩
    unfold Sp.takes at c3
    by_cases e7 : c = 7
    · subst e7
      rw [if_pos rfl] at c3
      match st, i1 with
      | x :: xs, _ => exact .inl ⟨rfl, x, xs, rfl, rfl⟩
      | [], i1 => simp at i1; omega
    · by_cases e89 : c = 8 ∨ c = 9
      · rw [if_neg e7, if_pos e89] at c3
        match st, i1 with
        | x :: y :: xs, _ => exact .inr (.inl ⟨e89, x, y, xs, rfl, by unfold Sp.tstep; rw [if_neg e7, if_pos e89]; rfl⟩)
        | [_], i1 => simp at i1; omega
        | [], i1 => simp at i1; omega
      · exact .inr (.inr ⟨c1, by omega, by unfold Sp.tstep; rw [if_neg e7, if_neg e89]⟩)

theorem info_cond : (Tryd.prog.info? 94).map (fun i => (i.zero, i.size, i.bytes)) = some (some .nilIface, 1, 16) := by kernel_rfl
/-- a row of conditions of the call's own: the trees, the last one first -/
def OwnC (w : World) (B : Nat) (v : Value) (st : List Sp.Cond) : Prop := w.ownsRow B 94 1 v st.length (st.reverse.map condV)
theorem OwnC.nil (w : World) (B : Nat) : OwnC w B (.slice none 0 0) [] := World.ownsRow_nil _ _ _ _
theorem own_cell1 {w : World} {B n m c : Nat} {T : TypeId} {A : Option Addr} {xs : List Value} (h : w.ownsRow B T 1 (.slice A m c) n xs) (hn : 0 < n) :
    ∃ g, A = some ⟨g, 0, none⟩ ∧ m = n ∧ B ≤ g ∧ g < w.heap.size ∧ n ≤ c ∧ c ≤ maxLen ∧ (∀ j, w.frozen? ⟨g, j, none⟩ = false) ∧ ∀ j, j < n → w.cell? ⟨g, j, none⟩ = xs[j]? := by
  rcases h.2 with ⟨_, h0⟩ | ⟨g, cap, cur, e, hg, hh, h1, h2, hc, ht⟩
  · omega
  · injection e with e1 e2 e3
    subst e1 e2 e3
    refine ⟨g, rfl, rfl, hg, ?_, h1, h2, Lib.frozen_of_heap hh, fun j hj => ?_⟩
    · rcases Nat.lt_or_ge g w.heap.size with h' | h'
      · exact h'
      · simp [Array.getElem?_eq_none h'] at hh
    · rw [Lib.cell_of_heap hh, ← ht, List.getElem?_take, if_pos (by omega), Array.getElem?_toList]
theorem top_at (x : Sp.Cond) (xs : List Sp.Cond) : ((x :: xs).reverse.map condV)[xs.length]? = some (condV x) := by simp
theorem top_set (x y : Sp.Cond) (xs : List Sp.Cond) : ((x :: xs).reverse.map condV).set xs.length (condV y) = (y :: xs).reverse.map condV := by simp
theorem next_at (x y : Sp.Cond) (xs : List Sp.Cond) : ((x :: y :: xs).reverse.map condV)[xs.length]? = some (condV y) := by simp
theorem next_set (x y z : Sp.Cond) (xs : List Sp.Cond) : (((x :: y :: xs).reverse.map condV).set xs.length (condV z)).take (xs.length + 1) = (z :: xs).reverse.map condV := by
  have h1 : (((x :: y :: xs).reverse.map condV).set xs.length (condV z)) = ((z :: xs).reverse.map condV) ++ [condV x] := by simp
  rw [h1, List.take_append_of_le_length (by simp), List.take_of_length_le (by simp)]

theorem own_snoc {w : World} {B : Nat} {v : Value} {s : Int} {st : List Sp.Cond} (h : w.ownsRow B 94 1 v (st.length + 1) (List.map condV st.reverse ++ [.iface 150 (.agg #[.int .i64 s])])) : OwnC w B v (.one s :: st) := by
  have e : (Sp.Cond.one s :: st).reverse.map condV = List.map condV st.reverse ++ [.iface 150 (.agg #[.int .i64 s])] := by simp [condV]
  unfold OwnC
  rw [e]; exact h

set_option maxHeartbeats 4000000 in
set_option maxRecDepth 100000 in
theorem c_conditionOf (A : Option Addr) (n c : Nat) (l : List Int) (w : World) (h : Ints w A n l) (hok : Sp.codeOk l = true) : Calls Tryd.prog 68 #[.slice A n c] w (RetK (condV (Sp.treeOf l)) w) := by
  obtain ⟨i0, hi0, hz0, hz1, hz2⟩ := info_parts info_cond
  have HI := Lib.hid (And.intro hi0 (And.intro hz0 (And.intro hz1 hz2)))
  clear hi0 hz0 hz1 hz2
  have HL := Lib.hid h.len
  obtain ⟨hl1, hl2⟩ := codeOk_len hok
  rw [h.len] at hl1 hl2
  have HOk := Lib.hid hok
  have HT := Lib.hid (tree_code hok).1
  clear hok
  go_enter Tryd.func68, Tryd.ntmps68
  go_wp2_with fail
  go_loopw [3, 5, 6, 9] (fun v _ _ i wr => ∃ k : Nat, k ≤ n ∧ i = .int .i64 k ∧ OwnC wr w.heap.size v (Sp.treesOf (l.take k)) ∧ Kept w wr) (fun _ _ _ i _ => n - (intOf i).toNat)
  case atStart => exact ⟨0, Nat.zero_le _, rfl, OwnC.nil _ _, Kept.refl _⟩
  case round =>
    obtain ⟨k, hk, rfl, hO, hkp⟩ := hrel
    by_cases hlt : k < n
    · obtain ⟨b, off, rfl, hb, hc, _⟩ := (h.keep hkp).at hlt
      obtain ⟨hoks, hcs⟩ := step_cases HOk.out (k := k) (by rw [HL.out]; exact hlt)
      have hlen : (Sp.treesOf (l.take k)).length ≤ k := by
        have h1 : (Sp.stepsOf (Sp.treesOf (l.take k))) = l.take k ∨ True := .inr trivial
        obtain ⟨q, hq, _⟩ := (Sp.codeOk_iff l).1 HOk.out
        cases hp : Sp.depthOf (l.take k) with
        | none => rw [Sp.depth_take_none l k hp] at hq; cases hq
        | some p =>
          have := (trees_at l k p hp).1
          have := (Sp.depth_le l k p hp).1
          omega
      clear hoks
      obtain ⟨nx, HNX⟩ : ∃ nx, Hid (Sp.treesOf (l.take (k + 1)) = nx) := ⟨_, rfl⟩
      rw [HNX.out] at hcs
      generalize Sp.treesOf (l.take k) = st at *
      generalize l.getD k default = s at *
      rcases hcs with ⟨rfl, x, xs, rfl, rfl⟩ | ⟨hs, x, y, xs, rfl, rfl⟩ | ⟨h0, h6, rfl⟩
      · obtain ⟨A', c', rfl⟩ := own_form hO
        replace hO : wr.ownsRow w.heap.size 94 1 (.slice A' (xs.length + 1) c') (xs.length + 1) ((x :: xs).reverse.map condV) := hO
        obtain ⟨g, rfl, _, hg, hgl, hcap, _, hfz, hcell⟩ := own_cell1 hO (by omega)
        obtain ⟨T1, p1, e1⟩ := condV_form x
        have hcx := hcell xs.length (by omega)
        rw [top_at, e1] at hcx
        have hfx := hfz xs.length
        have hst : condV (.neg x) = .iface 148 (.agg #[.iface T1 p1]) := by rw [← e1]; rfl
        have hO2 := (hO.stored xs.length (condV (.neg x))).1
        rw [top_set, hst] at hO2
        have HO2 := Lib.hid hO2
        have hk2 := hkp.setCell (p := ⟨g, xs.length, none⟩) hg (.iface 148 (.agg #[.iface T1 p1]))
        have hlen2 : xs.length + 1 ≤ 40 := by simp at hlen; omega
        have hw1 : IntKind.i64.wrap (((xs.length + 1 : Nat) : Int) - 1) = (xs.length : Int) := by rw [IntKind.wrap_i64]; omega
        clear hO hlen e1 hst hO2 hcell hfz
        show Code.wp _ _ _ _ _
        go_wp2_with fail
        exact ⟨⟨k + 1, by omega, by go_num, by rw [HNX.out]; exact HO2.out, hk2⟩, by simp [intOf]; omega⟩
      · obtain ⟨A', c', rfl⟩ := own_form hO
        replace hO : wr.ownsRow w.heap.size 94 1 (.slice A' (xs.length + 2) c') (xs.length + 2) ((x :: y :: xs).reverse.map condV) := hO
        obtain ⟨g, rfl, _, hg, hgl, hcap, hcm, hfz, hcell⟩ := own_cell1 hO (by omega)
        obtain ⟨T1, p1, e1⟩ := condV_form x
        obtain ⟨T2, p2, e2⟩ := condV_form y
        have hcx0 := hcell (xs.length + 1) (by omega)
        have hcy0 := hcell xs.length (by omega)
        rw [next_at, e2] at hcy0
        rw [show ((x :: y :: xs).reverse.map condV)[xs.length + 1]? = some (condV x) from top_at x (y :: xs), e1] at hcx0
        have hst : condV (.two s y x) = .iface 152 (.agg #[.int .i64 s, .iface T2 p2, .iface T1 p1]) := by rw [← e1, ← e2]; rfl
        have hO2 := own_cut (hO.stored xs.length (condV (.two s y x))).1 (show xs.length + 1 ≤ xs.length + 2 by omega)
        rw [next_set, hst] at hO2
        obtain ⟨M, HM⟩ : ∃ M, Hid (xs.length = M) := ⟨_, rfl⟩
        obtain ⟨M1, HM1⟩ : ∃ M1, Hid (xs.length + 1 = M1) := ⟨_, rfl⟩
        obtain ⟨N, HN⟩ : ∃ N, Hid ((x :: y :: xs).length = N) := ⟨_, rfl⟩
        have hNM : N = M + 2 ∧ M1 = M + 1 := ⟨by rw [← HN.out, ← HM.out]; rfl, by rw [← HM1.out, ← HM.out]⟩
        obtain ⟨hNM, hM1⟩ := hNM
        have hNc : N ≤ c' := by rw [hNM, ← HM.out]; exact hcap
        have hN40 : N ≤ 40 := by rw [← HN.out]; omega
        rw [HM1.out, HM.out] at hO2
        have HO2 : Hid ((wr.setCell ⟨g, M, none⟩ (.iface 152 (.agg #[.int .i64 s, .iface T2 p2, .iface T1 p1]))).ownsRow w.heap.size 94 1 (.slice (some ⟨g, 0, none⟩) M1 c') ((Sp.Cond.two s y x) :: xs).length ((Sp.Cond.two s y x :: xs).reverse.map condV)) := by
          show World.ownsRow _ _ _ _ _ (xs.length + 1) _
          rw [HM1.out]; exact hO2
        have hk2 := hkp.setCell (p := ⟨g, M, none⟩) hg (.iface 152 (.agg #[.int .i64 s, .iface T2 p2, .iface T1 p1]))
        have hcx : wr.cell? ⟨g, M1, none⟩ = some (.iface T1 p1) := by rw [← HM1.out]; exact hcx0
        have hcy : wr.cell? ⟨g, M, none⟩ = some (.iface T2 p2) := by rw [← HM.out]; exact hcy0
        have hfx := hfz M
        have hw1 : IntKind.i64.wrap ((N : Int) - 1) = (M1 : Int) := by rw [IntKind.wrap_i64]; omega
        have hw2 : IntKind.i64.wrap ((M1 : Int) - 1) = (M : Int) := by rw [IntKind.wrap_i64]; omega
        have hb1 : M < N := by omega
        have hb2 : M1 < N := by omega
        have hb3 : M1 ≤ c' := by omega
        have HJ : Hid (OwnC (wr.setCell ⟨g, M, none⟩ (.iface 152 (.agg #[.int .i64 s, .iface T2 p2, .iface T1 p1]))).drew w.heap.size (.slice (some ⟨g, 0, none⟩) M1 c') (.two s y x :: xs)) := HO2.out
        rw [HN.out]
        clear hO hlen e1 e2 hst hO2 hcell hfz hcx0 hcy0 hNM hM1 hcap
        rcases hs with rfl | rfl
        · go_wp2_with fail
          go_still_tail 16, (by kernel_rfl)
          change wpList _ _ _ _ _ wr.drew
          go_wp2_with fail
          exact ⟨⟨k + 1, by omega, by go_num, by rw [HNX.out]; exact HJ.out, hk2.drew⟩, by simp [intOf]; omega⟩
        · go_wp2_with fail
          go_still_tail 16, (by kernel_rfl)
          change wpList _ _ _ _ _ wr.drew
          go_wp2_with fail
          exact ⟨⟨k + 1, by omega, by go_num, by rw [HNX.out]; exact HJ.out, hk2.drew⟩, by simp [intOf]; omega⟩
      · obtain ⟨A', c', rfl⟩ := own_form hO
        have HO := Lib.hid hO
        have HLN := Lib.hid (show st.length ≤ 40 by omega)
        have n7 : ¬ s = 7 := by omega
        have n8 : ¬ s = 8 := by omega
        have n9 : ¬ s = 9 := by omega
        have hw1 : IntKind.i64.wrap ((st.length : Int) - 1) = (st.length : Int) - 1 := by rw [IntKind.wrap_i64]; omega
        clear hO hlen h0 h6
        go_wp2_with (at_builtin; refine wpList_append_own _ rfl (.tmp 17) (.tmp 21) 154 rfl w.heap.size 94 i0 .nilIface 1 16 Tryd.underlying154 HI.out.1 HI.out.2.1 HI.out.2.2.1 HI.out.2.2.2 rfl (by decide) (.slice A' st.length c') st.length _ rfl (World.ownsRow.alloc HO.out _) ⟨wr.heap.size, 0, none⟩ 1 1 [.iface 150 (.agg #[.int .i64 s])] rfl rfl (one_new _ _ _) (by simp [Value.oneCell']) (by have := HLN.out; unfold maxLen; omega) (by have := HLN.out; omega) (by have := hkp.size; simp; omega) ?_; intro v' wapp hown2 hg2 _)
        have hk2 : Kept w wapp := (hkp.alloc _).grown hg2 (fun k e => (World.ownsRow.lt HO.out k e).1)
        exact ⟨⟨k + 1, by omega, by go_num, by rw [HNX.out]; exact own_snoc hown2, hk2⟩, by simp [intOf]; omega⟩
    · obtain rfl : k = n := by omega
      have hall : l.take k = l := List.take_of_length_le (by rw [HL.out]; exact Nat.le_refl _)
      rw [hall, HT.out] at hO
      obtain ⟨A', c', rfl⟩ := own_form hO
      obtain ⟨g, rfl, _, hg, hgl, hcap, hcm, hfz, hcell⟩ := own_cell1 hO (by simp)
      have hc0 : wr.cell? ⟨g, 0, none⟩ = some (condV (Sp.treeOf l)) := hcell 0 (by simp)
      clear hall hO hcell hfz
      obtain ⟨T1, p1, e1⟩ := condV_form (Sp.treeOf l)
      rw [e1] at hc0
      have E1 := Lib.hid e1
      clear e1
      go_wp2_with fail
      go_ret
      exact ⟨by rw [E1.out]; rfl, hkp⟩

theorem text_zero (c : Sp.Cond) : c.text 0 = c.txt := by
  unfold Sp.Cond.text
  rw [decide_eq_false (Nat.not_lt_zero _)]; rfl

set_option maxHeartbeats 1000000 in
theorem c_iCodeText (A : Option Addr) (n c : Nat) (l : List Int) (w : World) (h : Ints w A n l) : Calls Tryd.prog 73 #[.slice A n c] w (RetK (.string ⟨(Sp.codeText l).toArray⟩) w) := by
  have hn := h.le
  cases hc : Sp.codeOk l
  · have HT := Lib.hid (codeText_no hc)
    have HO := Lib.hid hc
    clear hc
    go_enter Tryd.func73, Tryd.ntmps73
    go_wp2_with fail
    refine (c_iCodeValid A n c l w h).mono ?_; rintro e w2 ⟨rfl, rfl⟩
    rw [HO.out]
    go_wp2_with fail
    go_ret
    exact ⟨by rw [HT.out]; rfl, Kept.refl _⟩
  · have HT := Lib.hid (codeText_yes hc)
    rw [text_zero] at HT
    have HO := Lib.hid hc
    obtain ⟨_, ht2, ht3, _⟩ := tree_code hc
    have hl := (codeOk_len hc).2
    rw [← ht3] at hl
    have H2 := Lib.hid (And.intro ht2 hl)
    clear hc ht2 ht3 hl
    go_enter Tryd.func73, Tryd.ntmps73
    go_wp2_with fail
    refine (c_iCodeValid A n c l w h).mono ?_; rintro e w2 ⟨rfl, rfl⟩
    rw [HO.out]
    go_wp2_with fail
    refine (c_conditionOf A n c l _ h HO.out).mono ?_; rintro e w3 ⟨rfl, hk3⟩
    go_wp2_with fail
    refine (c_conditionText _ _ H2.out.1 H2.out.2).mono ?_; rintro e w4 ⟨rfl, hk4⟩
    go_wp2_with fail
    go_ret
    exact ⟨by rw [HT.out]; rfl, hk3.trans hk4⟩

end Go.Proofs.YtphdojebdclonaaDoor
