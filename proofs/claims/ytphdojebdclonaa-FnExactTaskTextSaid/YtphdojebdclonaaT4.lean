/- The program's conditions: their values, last steps, texts. -/
import Derived.Test.YtphdojebdclonaaT3
import Derived.Test.YtphdojebdclonaaTake
namespace Go.Proofs.Ytphdojebdclonaa
open Go.RowKit

/-- a tree as the program holds it -/
def condV : Sp.Cond → Value
  | .one s => .iface 119 (.agg #[.int .i64 s])
  | .neg c => .iface 121 (.agg #[condV c])
  | .two s l h => .iface 125 (.agg #[.int .i64 s, condV l, condV h])

theorem condV_form (c : Sp.Cond) : ∃ T p, condV c = .iface T p := by cases c <;> exact ⟨_, _, rfl⟩
theorem is_S (v : Value) (w : World) : (Instr.typeAssert (.iface 119 v) 111 119 true).run Try.prog w = .ok (.tuple #[v, .bool true]) w := by kernel_rfl
theorem no_ST (v : Value) (w : World) : (Instr.typeAssert (.iface 119 v) 111 121 true).run Try.prog w = .ok (.tuple #[.agg #[.nilIface], .bool false]) w := by kernel_rfl
theorem no_SJ (v : Value) (w : World) : (Instr.typeAssert (.iface 119 v) 111 125 true).run Try.prog w = .ok (.tuple #[.agg #[.int .i64 0, .nilIface, .nilIface], .bool false]) w := by kernel_rfl
theorem no_TS (v : Value) (w : World) : (Instr.typeAssert (.iface 121 v) 111 119 true).run Try.prog w = .ok (.tuple #[.agg #[.int .i64 0], .bool false]) w := by kernel_rfl
theorem is_T (v : Value) (w : World) : (Instr.typeAssert (.iface 121 v) 111 121 true).run Try.prog w = .ok (.tuple #[v, .bool true]) w := by kernel_rfl
theorem no_TJ (v : Value) (w : World) : (Instr.typeAssert (.iface 121 v) 111 125 true).run Try.prog w = .ok (.tuple #[.agg #[.int .i64 0, .nilIface, .nilIface], .bool false]) w := by kernel_rfl
theorem no_JS (v : Value) (w : World) : (Instr.typeAssert (.iface 125 v) 111 119 true).run Try.prog w = .ok (.tuple #[.agg #[.int .i64 0], .bool false]) w := by kernel_rfl
theorem no_JT (v : Value) (w : World) : (Instr.typeAssert (.iface 125 v) 111 121 true).run Try.prog w = .ok (.tuple #[.agg #[.nilIface], .bool false]) w := by kernel_rfl
theorem is_J (v : Value) (w : World) : (Instr.typeAssert (.iface 125 v) 111 125 true).run Try.prog w = .ok (.tuple #[v, .bool true]) w := by kernel_rfl

set_option maxHeartbeats 1000000 in
set_option maxRecDepth 100000 in
theorem c_lastStep (d : Sp.Cond) (w : World) : Calls Try.prog 103 #[condV d] w (RetK (.int .i64 d.last) w) := by
  have hS := is_S
  have hTS := no_TS
  have hTJ := no_TJ
  have hJS := no_JS
  have hJ := is_J
  cases d with
  | one s =>
    unfold condV
    go_enter Try.func103, Try.ntmps103
    go_wp2_with fail
    go_ret
    exact ⟨rfl, (Kept.refl _).alloc _⟩
  | neg c =>
    unfold condV
    generalize condV c = v
    go_enter Try.func103, Try.ntmps103
    go_wp2_with fail
    go_ret
    exact ⟨rfl, (Kept.refl _)⟩
  | two s l h =>
    unfold condV
    obtain ⟨T1, p1, e1⟩ := condV_form l
    obtain ⟨T2, p2, e2⟩ := condV_form h
    rw [e1, e2]
    clear e1 e2
    go_enter Try.func103, Try.ntmps103
    go_wp2_with fail
    go_ret
    exact ⟨rfl, (Kept.refl _).alloc _⟩

set_option maxHeartbeats 1000000 in
set_option maxRecDepth 100000 in
theorem c_singleText (s : Int) (w : World) (h0 : 0 ≤ s) (h6 : s ≤ 6) : Calls Try.prog 102 #[.int .i64 s] w (RetK (.string ⟨#[Sp.sgn s]⟩) w) := by
  obtain ⟨s, rfl⟩ := Int.eq_ofNat_of_zero_le h0
  by_cases h5 : s < 5
  · have HT := Lib.hid (sgn_one (s := (s : Int)) (by omega) (by omega))
    rw [Int.toNat_natCast] at HT
    obtain ⟨c', HC⟩ : ∃ c : Nat, Hid (c = 97 + s) := ⟨_, rfl⟩
    have hw : IntKind.i64.wrap (97 + (s : Int)) = (c' : Int) := by rw [HC.out, IntKind.wrap_i64]; omega
    have hw8 : IntKind.u8.wrap (c' : Int) = (c' : Int) := by rw [HC.out]; simp [IntKind.wrap, IntKind.bits, IntKind.signed]; omega
    have hcv := run_byte_string w c' (by rw [HC.out]; omega)
    rw [← HC.out] at HT
    obtain ⟨u, HU⟩ : ∃ u, Hid (UInt8.ofNat c' = u) := ⟨_, rfl⟩
    rw [HU.out] at HT hcv
    have n5 : ¬ (s : Int) = 5 := by omega
    have n6 : ¬ (s : Int) = 6 := by omega
    clear h6
    go_enter Try.func102, Try.ntmps102
    go_wp2_with fail
    go_ret
    exact ⟨by rw [HT.out]; rfl, (Kept.refl _).alloc _⟩
  · by_cases e : s = 5
    · subst e
      go_enter Try.func102, Try.ntmps102
      go_wp2_with fail
      go_ret
      exact ⟨rfl, (Kept.refl _)⟩
    · obtain rfl : s = 6 := by omega
      go_enter Try.func102, Try.ntmps102
      go_wp2_with fail
      go_ret
      exact ⟨rfl, (Kept.refl _)⟩

theorem takes_last {c : Sp.Cond} (h : c.ok) : 0 ≤ c.last ∧ c.last ≤ 9 := by
  cases c with
  | one s => have := h.1; have := h.2; simp only [Sp.Cond.last]; omega
  | neg c => simp only [Sp.Cond.last]; omega
  | two s l r => simp only [Sp.Cond.last]; rcases h.1 with e | e <;> omega
theorem mine_last {c : Sp.Cond} (h : c.ok) : (decide (c.mine < 3) = (c.last == 8 || c.last == 9)) ∧ (decide (c.mine < 2) = (c.last == 9)) ∧ decide (c.mine < 1) = false := by
  cases c with
  | one s =>
    obtain ⟨h0, h6⟩ := h
    have e8 : ¬ s = 8 := by omega
    have e9 : ¬ s = 9 := by omega
    simp [Sp.Cond.mine, Sp.Cond.last, e8, e9]
  | neg c => simp [Sp.Cond.mine, Sp.Cond.last]
  | two s l r =>
    rcases h.1 with rfl | rfl <;> simp [Sp.Cond.mine, Sp.Cond.last]
theorem txt_len (c : Sp.Cond) : c.txt.length ≤ 3 * c.steps.length := by
  have h := (text_len c 0).2
  unfold Sp.Cond.text at h
  rw [show decide (c.mine < 0) = false by simp] at h
  exact h

set_option maxHeartbeats 4000000 in
set_option maxRecDepth 100000 in
theorem c_partText (d : Sp.Cond) (b : Bool) (w : World) (hl : d.steps.length ≤ 40) (IH : Calls Try.prog 95 #[condV d] w (RetK (.string ⟨d.txt.toArray⟩) w)) : Calls Try.prog 104 #[condV d, .bool b] w (RetK (.string ⟨(Sp.brk b d.txt).toArray⟩) w) := by
  have HI := Lib.hid IH
  have hlen : d.txt.length ≤ 120 := by have := txt_len d; omega
  clear IH hl
  generalize condV d = v at *
  generalize d.txt = t at *
  cases b
  · go_enter Try.func104, Try.ntmps104
    go_wp2_with fail
    refine HI.out.mono ?_; rintro e w4 ⟨rfl, hk4⟩
    go_wp2_with fail
    go_ret
    exact ⟨rfl, hk4⟩
  · go_enter Try.func104, Try.ntmps104
    go_wp2_with fail
    refine HI.out.mono ?_; rintro e w4 ⟨rfl, hk4⟩
    go_wp2_with fail
    go_ret
    exact ⟨congrArg (fun x => Ending.returned (.string x)) (str_brk _), hk4⟩

set_option maxHeartbeats 4000000 in
set_option maxRecDepth 100000 in
theorem c_conditionText (d : Sp.Cond) : ∀ (w : World), d.ok → d.steps.length ≤ 40 → Calls Try.prog 95 #[condV d] w (RetK (.string ⟨d.txt.toArray⟩) w) := by
  induction d with
  | one s =>
    intro w hd hl
    obtain ⟨h0, h6⟩ := hd
    have hS := is_S
    unfold condV
    go_enter Try.func95, Try.ntmps95
    go_wp2_with fail
    refine (c_singleText s _ h0 h6).mono ?_; rintro e w4 ⟨rfl, hk4⟩
    go_wp2_with fail
    go_ret
    exact ⟨rfl, hk4.unbox⟩
  | neg d ih =>
    intro w hd hl
    have hl2 : d.steps.length ≤ 40 := by simp [Sp.Cond.steps] at hl; omega
    have IP := Lib.hid (fun b w => c_partText d b w hl2 (ih w hd hl2))
    have IL := Lib.hid (fun w => c_lastStep d w)
    have HM := Lib.hid (mine_last (c := d) hd).1
    have hlen : (Sp.brk (decide (d.mine < 3)) d.txt).length ≤ 122 := by
      have h1 := txt_len d; have h2 := (brk_len (decide (d.mine < 3)) d.txt).2; omega
    have hTS := no_TS
    have hT := is_T
    obtain ⟨T1, p1, e1⟩ := condV_form d
    have HF := Lib.hid e1
    show Calls Try.prog 95 #[.iface 121 (.agg #[condV d])] w (RetK (.string ⟨(33 :: Sp.brk (decide (d.mine < 3)) d.txt).toArray⟩) w)
    rw [e1] at IP IL ⊢
    rw [HM.out] at hlen ⊢
    obtain ⟨tx, HT⟩ : ∃ tx, Hid (Sp.brk (d.last == 8 || d.last == 9) d.txt = tx) := ⟨_, rfl⟩
    rw [HT.out] at hlen ⊢
    generalize d.last = x at *
    clear hl hl2 ih e1 HM
    obtain ⟨w1, HW1⟩ : ∃ w1, Hid (w.alloc (.cells #[.iface T1 p1] 121) = w1) := ⟨_, rfl⟩
    have hk0 := (Kept.refl w).alloc (.cells #[.iface T1 p1] 121)
    have B0 := Blk.new w 121 #[.iface T1 p1]
    rw [HW1.out] at hk0 B0
    have c0 := B0.cell 0
    go_enter Try.func95, Try.ntmps95
    go_wp2_with fail
    rw [HW1.out]
    go_wp2_with fail
    refine (IL.out w1).mono ?_; rintro e w2 ⟨rfl, hk2⟩
    have c1 := (B0.kept hk2).cell 0
    by_cases h8 : x = 8
    · subst h8
      replace HT : Hid (Sp.brk true d.txt = tx) := HT
      go_wp2_with fail
      refine (IP.out _ w2).mono ?_; rintro e w4 ⟨rfl, hk4⟩
      rw [HT.out]
      go_wp2_with fail
      go_ret
      exact ⟨congrArg (fun x => Ending.returned (.string x)) (str_add [33] tx), (hk0.trans hk2).trans hk4⟩
    · by_cases h9 : x = 9
      · subst h9
        replace HT : Hid (Sp.brk true d.txt = tx) := HT
        go_wp2_with fail
        refine (IP.out _ w2).mono ?_; rintro e w4 ⟨rfl, hk4⟩
        rw [HT.out]
        go_wp2_with fail
        go_ret
        exact ⟨congrArg (fun x => Ending.returned (.string x)) (str_add [33] tx), (hk0.trans hk2).trans hk4⟩
      · skip
        go_wp2_with fail
        refine (IP.out _ w2).mono ?_; rintro e w4 ⟨rfl, hk4⟩
        rw [HT.out]
        go_wp2_with fail
        go_ret
        exact ⟨congrArg (fun x => Ending.returned (.string x)) (str_add [33] tx), (hk0.trans hk2).trans hk4⟩
  | two s d1 d2 ih1 ih2 =>
    intro w hd hl
    obtain ⟨hs, hd1, hd2⟩ := hd
    have hl0 : d1.steps.length + d2.steps.length ≤ 39 := by simp [Sp.Cond.steps] at hl; omega
    have IP1 := Lib.hid (fun b w => c_partText d1 b w (by omega) (ih1 w hd1 (by omega)))
    have IP2 := Lib.hid (fun b w => c_partText d2 b w (by omega) (ih2 w hd2 (by omega)))
    have IL1 := Lib.hid (fun w => c_lastStep d1 w)
    have IL2 := Lib.hid (fun w => c_lastStep d2 w)
    have HM1 := Lib.hid (mine_last hd1)
    have HM2 := Lib.hid (mine_last hd2)
    have hlen1 : ∀ b, (Sp.brk b d1.txt).length ≤ 122 := fun b => by
      have h1 := txt_len d1; have h2 := (brk_len b d1.txt).2; omega
    have hlen2 : ∀ b, (Sp.brk b d2.txt).length ≤ 122 := fun b => by
      have h1 := txt_len d2; have h2 := (brk_len b d2.txt).2; omega
    have HN := Lib.hid (And.intro hlen1 hlen2)
    have hJS := no_JS
    have hJT := no_JT
    have hJ := is_J
    obtain ⟨T1, p1, e1⟩ := condV_form d1
    obtain ⟨T2, p2, e2⟩ := condV_form d2
    clear ih1 ih2 hlen1 hlen2 hl hl0 hd1 hd2
    rcases hs with rfl | rfl
    · have HT : Hid ((Sp.Cond.two 8 d1 d2).txt = Sp.brk (d1.last == 9) d1.txt ++ 38 :: Sp.brk (d2.last == 8 || d2.last == 9) d2.txt) := by
        show _ = _
        rw [← HM1.out.2.1, ← HM2.out.1]; rfl
      show Calls Try.prog 95 #[.iface 125 (.agg #[.int .i64 8, condV d1, condV d2])] w (RetK (.string ⟨((Sp.Cond.two 8 d1 d2).txt).toArray⟩) w)
      rw [e1] at IP1 IL1 ⊢
      rw [e2] at IP2 IL2 ⊢
      rw [HT.out]
      clear HT HM1 HM2 e1 e2
      obtain ⟨b1, hb1⟩ : ∃ b, Hid ((d1.last == 9) = b) := ⟨_, rfl⟩
      obtain ⟨b2, hb2⟩ : ∃ b, Hid ((d2.last == 8 || d2.last == 9) = b) := ⟨_, rfl⟩
      rw [hb1.out, hb2.out]
      generalize d1.last = x1 at *
      generalize d2.last = x2 at *
      have hn1 := HN.out.1 b1
      have hn2 := HN.out.2 b2
      have HJ : Hid ((⟨(Sp.brk b1 d1.txt).toArray⟩ : ByteArray) ++ ⟨#[38]⟩ ++ ⟨(Sp.brk b2 d2.txt).toArray⟩ = ⟨(Sp.brk b1 d1.txt ++ 38 :: Sp.brk b2 d2.txt).toArray⟩) := by
        show _ = _
        rw [str_add1, str_add]; simp
      have IQ1 := Lib.hid (IP1.out b1)
      have IQ2 := Lib.hid (IP2.out b2)
      generalize Sp.brk b1 d1.txt = t1 at *
      generalize Sp.brk b2 d2.txt = t2 at *
      clear IP1 IP2
      have hk0 := (Kept.refl w).alloc (.cells #[.int .i64 8, .iface T1 p1, .iface T2 p2] 125)
      have B0 := Blk.new w 125 #[.int .i64 8, .iface T1 p1, .iface T2 p2]
      go_enter Try.func95, Try.ntmps95
      go_wp2_with fail
      obtain ⟨D, HD⟩ : ∃ D, Hid (w.heap.size = D) := ⟨_, rfl⟩
      obtain ⟨w1, HW1⟩ : ∃ w1, Hid (w.alloc (.cells #[.int .i64 8, .iface T1 p1, .iface T2 p2] 125) = w1) := ⟨_, rfl⟩
      rw [HD.out, HW1.out] at B0 ⊢
      rw [HW1.out] at hk0
      have hkd := (Kept.refl w1).drew
      have B1 := B0.kept hkd
      refine wp_region_held_drew (S := (fun w' => w'.cell? ⟨D, 0, none⟩ = some (.int .i64 8) ∧ w'.cell? ⟨D, 1, none⟩ = some (.iface T1 p1) ∧ w'.cell? ⟨D, 2, none⟩ = some (.iface T2 p2))) (by kernel_rfl) ⟨B1.cell 0, B1.cell 1, B1.cell 2⟩ (fun hHeld => ?_)
      (refine take_val (i := 0) (v := .pointer (some ⟨D, 1, none⟩)) rfl rfl (by kernel_rfl) (by kernel_rfl) (by kernel_rfl) (fun _ _ _ h => h) rfl (by intro wq hq; (try go_split_ands); go_simp; try with_reducible rfl) (hHeld) ?_; try simp only [List.setIfInBounds_toArray, List.set_cons_zero, List.set_cons_succ])
      (refine take_val (i := 1) (v := .iface T1 p1) rfl rfl (by kernel_rfl) (by kernel_rfl) (by kernel_rfl) (fun _ _ _ h => h) rfl (by intro wq hq; (try go_split_ands); go_simp; try with_reducible rfl) (hHeld) ?_; try simp only [List.setIfInBounds_toArray, List.set_cons_zero, List.set_cons_succ])
      (refine take_val (i := 3) (v := .pointer (some ⟨D, 2, none⟩)) rfl rfl (by kernel_rfl) (by kernel_rfl) (by kernel_rfl) (fun _ _ _ h => h) rfl (by intro wq hq; (try go_split_ands); go_simp; try with_reducible rfl) (hHeld) ?_; try simp only [List.setIfInBounds_toArray, List.set_cons_zero, List.set_cons_succ])
      (refine take_val (i := 4) (v := .iface T2 p2) rfl rfl (by kernel_rfl) (by kernel_rfl) (by kernel_rfl) (fun _ _ _ h => h) rfl (by intro wq hq; (try go_split_ands); go_simp; try with_reducible rfl) (hHeld) ?_; try simp only [List.setIfInBounds_toArray, List.set_cons_zero, List.set_cons_succ])
      (refine wpAnyH_ready (rs := [2]) (by kernel_rfl) (by simp) ?_; refine AllReadyH.cons rfl (fun K hK => ?_) AllReadyH.nil; go_simp)
      refine (IL1.out _).mono ?_; rintro e w2 ⟨rfl, hk2⟩
      have B2 := B1.kept hk2
      (refine hK.out _ _ (⟨B2.cell 0, B2.cell 1, B2.cell 2⟩) (fun _ => ?_); clear hK K; try simp only [Act.put, List.setIfInBounds_toArray, List.set_cons_zero, List.set_cons_succ])
      (refine wpAnyH_ready (rs := [5]) (by kernel_rfl) (by simp) ?_; refine AllReadyH.cons rfl (fun K hK => ?_) AllReadyH.nil; go_simp)
      refine (IL2.out _).mono ?_; rintro e w3 ⟨rfl, hk3⟩
      have B3 := B2.kept hk3
      (refine hK.out _ _ (⟨B3.cell 0, B3.cell 1, B3.cell 2⟩) (fun _ => ?_); clear hK K; try simp only [Act.put, List.setIfInBounds_toArray, List.set_cons_zero, List.set_cons_succ])
      (refine take_val (i := 6) (v := .int .i64 x1) rfl rfl (by kernel_rfl) (by kernel_rfl) (by kernel_rfl) (fun _ _ _ h => h) rfl (by intro wq hq; (try go_split_ands); go_simp; try with_reducible rfl) (⟨B3.cell 0, B3.cell 1, B3.cell 2⟩) ?_; try simp only [List.setIfInBounds_toArray, List.set_cons_zero, List.set_cons_succ])
      (refine take_val (i := 7) (v := .int .i64 x2) rfl rfl (by kernel_rfl) (by kernel_rfl) (by kernel_rfl) (fun _ _ _ h => h) rfl (by intro wq hq; (try go_split_ands); go_simp; try with_reducible rfl) (⟨B3.cell 0, B3.cell 1, B3.cell 2⟩) ?_; try simp only [List.setIfInBounds_toArray, List.set_cons_zero, List.set_cons_succ])
      refine wpAnyH_done (by kernel_rfl) ?_ _
      have hk3' := ((hk0.trans hkd).trans hk2).trans hk3
      have c3 := B3.cell
      clear hk2 hk3 B1 B2 hHeld
      go_wp2_with fail
      clear c3
      have hkd := (Kept.refl w3).drew
      have B1 := B3.kept hkd
      by_cases h8 : x2 = 8
      · subst h8
        obtain rfl : b2 = true := hb2.out.symm
        have hB1 : (x1 == 9) = b1 := hb1.out
        refine wp_region_held_drew (S := (fun w' => w'.cell? ⟨D, 0, none⟩ = some (.int .i64 8) ∧ w'.cell? ⟨D, 1, none⟩ = some (.iface T1 p1) ∧ w'.cell? ⟨D, 2, none⟩ = some (.iface T2 p2))) (by kernel_rfl) ⟨B1.cell 0, B1.cell 1, B1.cell 2⟩ (fun hHeld => ?_)
        (refine take_val (i := 0) (v := .pointer (some ⟨D, 1, none⟩)) rfl rfl (by kernel_rfl) (by kernel_rfl) (by kernel_rfl) (fun _ _ _ h => h) rfl (by intro wq hq; (try go_split_ands); go_simp; try with_reducible rfl) (hHeld) ?_; try simp only [List.setIfInBounds_toArray, List.set_cons_zero, List.set_cons_succ])
        (refine take_val (i := 1) (v := .iface T1 p1) rfl rfl (by kernel_rfl) (by kernel_rfl) (by kernel_rfl) (fun _ _ _ h => h) rfl (by intro wq hq; (try go_split_ands); go_simp; try with_reducible rfl) (hHeld) ?_; try simp only [List.setIfInBounds_toArray, List.set_cons_zero, List.set_cons_succ])
        (refine take_val (i := 2) (v := .int .i64 x1) rfl rfl (by kernel_rfl) (by kernel_rfl) (by kernel_rfl) (fun _ _ _ h => h) rfl (by intro wq hq; (try go_split_ands); go_simp; try with_reducible rfl) (hHeld) ?_; try simp only [List.setIfInBounds_toArray, List.set_cons_zero, List.set_cons_succ])
        (refine take_val (i := 3) (v := .bool b1) rfl rfl (by kernel_rfl) (by kernel_rfl) (by kernel_rfl) (fun _ _ _ h => h) rfl (by intro wq hq; (try go_split_ands); go_simp; try with_reducible rfl) (hHeld) ?_; try simp only [List.setIfInBounds_toArray, List.set_cons_zero, List.set_cons_succ])
        (refine take_val (i := 6) (v := .pointer (some ⟨D, 2, none⟩)) rfl rfl (by kernel_rfl) (by kernel_rfl) (by kernel_rfl) (fun _ _ _ h => h) rfl (by intro wq hq; (try go_split_ands); go_simp; try with_reducible rfl) (hHeld) ?_; try simp only [List.setIfInBounds_toArray, List.set_cons_zero, List.set_cons_succ])
        (refine take_val (i := 7) (v := .iface T2 p2) rfl rfl (by kernel_rfl) (by kernel_rfl) (by kernel_rfl) (fun _ _ _ h => h) rfl (by intro wq hq; (try go_split_ands); go_simp; try with_reducible rfl) (hHeld) ?_; try simp only [List.setIfInBounds_toArray, List.set_cons_zero, List.set_cons_succ])
        (refine take_val (i := 8) (v := .int .i64 8) rfl rfl (by kernel_rfl) (by kernel_rfl) (by kernel_rfl) (fun _ _ _ h => h) rfl (by intro wq hq; (try go_split_ands); go_simp; try with_reducible rfl) (hHeld) ?_; try simp only [List.setIfInBounds_toArray, List.set_cons_zero, List.set_cons_succ])
        (refine take_val (i := 9) (v := .bool false) rfl rfl (by kernel_rfl) (by kernel_rfl) (by kernel_rfl) (fun _ _ _ h => h) rfl (by intro wq hq; (try go_split_ands); go_simp; try with_reducible rfl) (hHeld) ?_; try simp only [List.setIfInBounds_toArray, List.set_cons_zero, List.set_cons_succ])
        (refine wpAnyH_ready (rs := [4]) (by kernel_rfl) (by simp) ?_; refine AllReadyH.cons rfl (fun K hK => ?_) AllReadyH.nil; go_simp)
        refine (IQ1.out _).mono ?_; rintro e w5 ⟨rfl, hk5⟩
        have B2 := B1.kept hk5
        (refine hK.out _ _ (⟨B2.cell 0, B2.cell 1, B2.cell 2⟩) (fun _ => ?_); clear hK K; try simp only [Act.put, List.setIfInBounds_toArray, List.set_cons_zero, List.set_cons_succ])
        (refine take_val (i := 5) (v := .string (⟨t1.toArray⟩ ++ ⟨#[38]⟩)) rfl rfl (by kernel_rfl) (by kernel_rfl) (by kernel_rfl) (fun _ _ _ h => h) rfl (by intro wq hq; (try go_split_ands); go_simp; (try with_reducible rfl); (try omega)) (⟨B2.cell 0, B2.cell 1, B2.cell 2⟩) ?_; try simp only [List.setIfInBounds_toArray, List.set_cons_zero, List.set_cons_succ])
        (refine take_val (i := 10) (v := .bool false) rfl rfl (by kernel_rfl) (by kernel_rfl) (by kernel_rfl) (fun _ _ _ h => h) rfl (by intro wq hq; (try go_split_ands); go_simp; try with_reducible rfl) (⟨B2.cell 0, B2.cell 1, B2.cell 2⟩) ?_; try simp only [List.setIfInBounds_toArray, List.set_cons_zero, List.set_cons_succ])
        (refine take_val (i := 11) (v := .int .i64 8) rfl rfl (by kernel_rfl) (by kernel_rfl) (by kernel_rfl) (fun _ _ _ h => h) rfl (by intro wq hq; (try go_split_ands); go_simp; try with_reducible rfl) (⟨B2.cell 0, B2.cell 1, B2.cell 2⟩) ?_; try simp only [List.setIfInBounds_toArray, List.set_cons_zero, List.set_cons_succ])
        (refine take_val (i := 12) (v := .bool true) rfl rfl (by kernel_rfl) (by kernel_rfl) (by kernel_rfl) (fun _ _ _ h => h) rfl (by intro wq hq; (try go_split_ands); go_simp; try with_reducible rfl) (⟨B2.cell 0, B2.cell 1, B2.cell 2⟩) ?_; try simp only [List.setIfInBounds_toArray, List.set_cons_zero, List.set_cons_succ])
        (refine take_val (i := 13) (v := .bool true) rfl rfl (by kernel_rfl) (by kernel_rfl) (by kernel_rfl) (fun _ _ _ h => h) rfl (by intro wq hq; (try go_split_ands); go_simp; try with_reducible rfl) (⟨B2.cell 0, B2.cell 1, B2.cell 2⟩) ?_; try simp only [List.setIfInBounds_toArray, List.set_cons_zero, List.set_cons_succ])
        (refine wpAnyH_ready (rs := [14]) (by kernel_rfl) (by simp) ?_; refine AllReadyH.cons rfl (fun K hK => ?_) AllReadyH.nil; go_simp)
        refine (IQ2.out _).mono ?_; rintro e w6 ⟨rfl, hk6⟩
        have B4 := B2.kept hk6
        (refine hK.out _ _ (⟨B4.cell 0, B4.cell 1, B4.cell 2⟩) (fun _ => ?_); clear hK K; try simp only [Act.put, List.setIfInBounds_toArray, List.set_cons_zero, List.set_cons_succ])
        (refine take_val (i := 15) (v := .string (⟨t1.toArray⟩ ++ ⟨#[38]⟩ ++ ⟨t2.toArray⟩)) rfl rfl (by kernel_rfl) (by kernel_rfl) (by kernel_rfl) (fun _ _ _ h => h) rfl (by intro wq hq; (try go_split_ands); go_simp; (try with_reducible rfl); (try omega)) (⟨B4.cell 0, B4.cell 1, B4.cell 2⟩) ?_; try simp only [List.setIfInBounds_toArray, List.set_cons_zero, List.set_cons_succ])
        (refine take_val (i := 16) (v := .string (⟨t1.toArray⟩ ++ ⟨#[38]⟩ ++ ⟨t2.toArray⟩)) rfl rfl (by kernel_rfl) (by kernel_rfl) (by kernel_rfl) (fun _ _ _ h => h) rfl (by intro wq hq; (try go_split_ands); go_simp; (try with_reducible rfl); (try omega)) (⟨B4.cell 0, B4.cell 1, B4.cell 2⟩) ?_; try simp only [List.setIfInBounds_toArray, List.set_cons_zero, List.set_cons_succ])
        refine wpAnyH_done (by kernel_rfl) ?_ _
        go_wp2_with fail
        go_ret
        exact ⟨congrArg (fun x => Ending.returned (.string x)) HJ.out, ((hk3'.trans hkd).trans hk5).trans hk6⟩
      · by_cases h9 : x2 = 9
        · subst h9
          obtain rfl : b2 = true := hb2.out.symm
          have hB1 : (x1 == 9) = b1 := hb1.out
          refine wp_region_held_drew (S := (fun w' => w'.cell? ⟨D, 0, none⟩ = some (.int .i64 8) ∧ w'.cell? ⟨D, 1, none⟩ = some (.iface T1 p1) ∧ w'.cell? ⟨D, 2, none⟩ = some (.iface T2 p2))) (by kernel_rfl) ⟨B1.cell 0, B1.cell 1, B1.cell 2⟩ (fun hHeld => ?_)
          (refine take_val (i := 0) (v := .pointer (some ⟨D, 1, none⟩)) rfl rfl (by kernel_rfl) (by kernel_rfl) (by kernel_rfl) (fun _ _ _ h => h) rfl (by intro wq hq; (try go_split_ands); go_simp; try with_reducible rfl) (hHeld) ?_; try simp only [List.setIfInBounds_toArray, List.set_cons_zero, List.set_cons_succ])
          (refine take_val (i := 1) (v := .iface T1 p1) rfl rfl (by kernel_rfl) (by kernel_rfl) (by kernel_rfl) (fun _ _ _ h => h) rfl (by intro wq hq; (try go_split_ands); go_simp; try with_reducible rfl) (hHeld) ?_; try simp only [List.setIfInBounds_toArray, List.set_cons_zero, List.set_cons_succ])
          (refine take_val (i := 2) (v := .int .i64 x1) rfl rfl (by kernel_rfl) (by kernel_rfl) (by kernel_rfl) (fun _ _ _ h => h) rfl (by intro wq hq; (try go_split_ands); go_simp; try with_reducible rfl) (hHeld) ?_; try simp only [List.setIfInBounds_toArray, List.set_cons_zero, List.set_cons_succ])
          (refine take_val (i := 3) (v := .bool b1) rfl rfl (by kernel_rfl) (by kernel_rfl) (by kernel_rfl) (fun _ _ _ h => h) rfl (by intro wq hq; (try go_split_ands); go_simp; try with_reducible rfl) (hHeld) ?_; try simp only [List.setIfInBounds_toArray, List.set_cons_zero, List.set_cons_succ])
          (refine take_val (i := 6) (v := .pointer (some ⟨D, 2, none⟩)) rfl rfl (by kernel_rfl) (by kernel_rfl) (by kernel_rfl) (fun _ _ _ h => h) rfl (by intro wq hq; (try go_split_ands); go_simp; try with_reducible rfl) (hHeld) ?_; try simp only [List.setIfInBounds_toArray, List.set_cons_zero, List.set_cons_succ])
          (refine take_val (i := 7) (v := .iface T2 p2) rfl rfl (by kernel_rfl) (by kernel_rfl) (by kernel_rfl) (fun _ _ _ h => h) rfl (by intro wq hq; (try go_split_ands); go_simp; try with_reducible rfl) (hHeld) ?_; try simp only [List.setIfInBounds_toArray, List.set_cons_zero, List.set_cons_succ])
          (refine take_val (i := 8) (v := .int .i64 9) rfl rfl (by kernel_rfl) (by kernel_rfl) (by kernel_rfl) (fun _ _ _ h => h) rfl (by intro wq hq; (try go_split_ands); go_simp; try with_reducible rfl) (hHeld) ?_; try simp only [List.setIfInBounds_toArray, List.set_cons_zero, List.set_cons_succ])
          (refine take_val (i := 9) (v := .bool true) rfl rfl (by kernel_rfl) (by kernel_rfl) (by kernel_rfl) (fun _ _ _ h => h) rfl (by intro wq hq; (try go_split_ands); go_simp; try with_reducible rfl) (hHeld) ?_; try simp only [List.setIfInBounds_toArray, List.set_cons_zero, List.set_cons_succ])
          (refine wpAnyH_ready (rs := [4]) (by kernel_rfl) (by simp) ?_; refine AllReadyH.cons rfl (fun K hK => ?_) AllReadyH.nil; go_simp)
          refine (IQ1.out _).mono ?_; rintro e w5 ⟨rfl, hk5⟩
          have B2 := B1.kept hk5
          (refine hK.out _ _ (⟨B2.cell 0, B2.cell 1, B2.cell 2⟩) (fun _ => ?_); clear hK K; try simp only [Act.put, List.setIfInBounds_toArray, List.set_cons_zero, List.set_cons_succ])
          (refine take_val (i := 5) (v := .string (⟨t1.toArray⟩ ++ ⟨#[38]⟩)) rfl rfl (by kernel_rfl) (by kernel_rfl) (by kernel_rfl) (fun _ _ _ h => h) rfl (by intro wq hq; (try go_split_ands); go_simp; (try with_reducible rfl); (try omega)) (⟨B2.cell 0, B2.cell 1, B2.cell 2⟩) ?_; try simp only [List.setIfInBounds_toArray, List.set_cons_zero, List.set_cons_succ])
          (refine take_val (i := 10) (v := .bool true) rfl rfl (by kernel_rfl) (by kernel_rfl) (by kernel_rfl) (fun _ _ _ h => h) rfl (by intro wq hq; (try go_split_ands); go_simp; try with_reducible rfl) (⟨B2.cell 0, B2.cell 1, B2.cell 2⟩) ?_; try simp only [List.setIfInBounds_toArray, List.set_cons_zero, List.set_cons_succ])
          (refine take_skip (i := 11) rfl rfl (by kernel_rfl) (by kernel_rfl) (by kernel_rfl) (fun _ _ _ h => h) rfl (⟨B2.cell 0, B2.cell 1, B2.cell 2⟩) ?_; try simp only [List.setIfInBounds_toArray, List.set_cons_zero, List.set_cons_succ])
          (refine take_skip (i := 12) rfl rfl (by kernel_rfl) (by kernel_rfl) (by kernel_rfl) (fun _ _ _ h => h) rfl (⟨B2.cell 0, B2.cell 1, B2.cell 2⟩) ?_; try simp only [List.setIfInBounds_toArray, List.set_cons_zero, List.set_cons_succ])
          (refine take_val (i := 13) (v := .bool true) rfl rfl (by kernel_rfl) (by kernel_rfl) (by kernel_rfl) (fun _ _ _ h => h) rfl (by intro wq hq; (try go_split_ands); go_simp; try with_reducible rfl) (⟨B2.cell 0, B2.cell 1, B2.cell 2⟩) ?_; try simp only [List.setIfInBounds_toArray, List.set_cons_zero, List.set_cons_succ])
          (refine wpAnyH_ready (rs := [14]) (by kernel_rfl) (by simp) ?_; refine AllReadyH.cons rfl (fun K hK => ?_) AllReadyH.nil; go_simp)
          refine (IQ2.out _).mono ?_; rintro e w6 ⟨rfl, hk6⟩
          have B4 := B2.kept hk6
          (refine hK.out _ _ (⟨B4.cell 0, B4.cell 1, B4.cell 2⟩) (fun _ => ?_); clear hK K; try simp only [Act.put, List.setIfInBounds_toArray, List.set_cons_zero, List.set_cons_succ])
          (refine take_val (i := 15) (v := .string (⟨t1.toArray⟩ ++ ⟨#[38]⟩ ++ ⟨t2.toArray⟩)) rfl rfl (by kernel_rfl) (by kernel_rfl) (by kernel_rfl) (fun _ _ _ h => h) rfl (by intro wq hq; (try go_split_ands); go_simp; (try with_reducible rfl); (try omega)) (⟨B4.cell 0, B4.cell 1, B4.cell 2⟩) ?_; try simp only [List.setIfInBounds_toArray, List.set_cons_zero, List.set_cons_succ])
          (refine take_val (i := 16) (v := .string (⟨t1.toArray⟩ ++ ⟨#[38]⟩ ++ ⟨t2.toArray⟩)) rfl rfl (by kernel_rfl) (by kernel_rfl) (by kernel_rfl) (fun _ _ _ h => h) rfl (by intro wq hq; (try go_split_ands); go_simp; (try with_reducible rfl); (try omega)) (⟨B4.cell 0, B4.cell 1, B4.cell 2⟩) ?_; try simp only [List.setIfInBounds_toArray, List.set_cons_zero, List.set_cons_succ])
          refine wpAnyH_done (by kernel_rfl) ?_ _
          go_wp2_with fail
          go_ret
          exact ⟨congrArg (fun x => Ending.returned (.string x)) HJ.out, ((hk3'.trans hkd).trans hk5).trans hk6⟩
        · have h8' : (x2 == 8) = false := beq_eq_false_iff_ne.2 h8
          have h9' : (x2 == 9) = false := beq_eq_false_iff_ne.2 h9
          obtain rfl : b2 = false := by rw [← hb2.out, h8', h9']; rfl
          clear h8 h9
          have hB1 : (x1 == 9) = b1 := hb1.out
          refine wp_region_held_drew (S := (fun w' => w'.cell? ⟨D, 0, none⟩ = some (.int .i64 8) ∧ w'.cell? ⟨D, 1, none⟩ = some (.iface T1 p1) ∧ w'.cell? ⟨D, 2, none⟩ = some (.iface T2 p2))) (by kernel_rfl) ⟨B1.cell 0, B1.cell 1, B1.cell 2⟩ (fun hHeld => ?_)
          (refine take_val (i := 0) (v := .pointer (some ⟨D, 1, none⟩)) rfl rfl (by kernel_rfl) (by kernel_rfl) (by kernel_rfl) (fun _ _ _ h => h) rfl (by intro wq hq; (try go_split_ands); go_simp; try with_reducible rfl) (hHeld) ?_; try simp only [List.setIfInBounds_toArray, List.set_cons_zero, List.set_cons_succ])
          (refine take_val (i := 1) (v := .iface T1 p1) rfl rfl (by kernel_rfl) (by kernel_rfl) (by kernel_rfl) (fun _ _ _ h => h) rfl (by intro wq hq; (try go_split_ands); go_simp; try with_reducible rfl) (hHeld) ?_; try simp only [List.setIfInBounds_toArray, List.set_cons_zero, List.set_cons_succ])
          (refine take_val (i := 2) (v := .int .i64 x1) rfl rfl (by kernel_rfl) (by kernel_rfl) (by kernel_rfl) (fun _ _ _ h => h) rfl (by intro wq hq; (try go_split_ands); go_simp; try with_reducible rfl) (hHeld) ?_; try simp only [List.setIfInBounds_toArray, List.set_cons_zero, List.set_cons_succ])
          (refine take_val (i := 3) (v := .bool b1) rfl rfl (by kernel_rfl) (by kernel_rfl) (by kernel_rfl) (fun _ _ _ h => h) rfl (by intro wq hq; (try go_split_ands); go_simp; try with_reducible rfl) (hHeld) ?_; try simp only [List.setIfInBounds_toArray, List.set_cons_zero, List.set_cons_succ])
          (refine take_val (i := 6) (v := .pointer (some ⟨D, 2, none⟩)) rfl rfl (by kernel_rfl) (by kernel_rfl) (by kernel_rfl) (fun _ _ _ h => h) rfl (by intro wq hq; (try go_split_ands); go_simp; try with_reducible rfl) (hHeld) ?_; try simp only [List.setIfInBounds_toArray, List.set_cons_zero, List.set_cons_succ])
          (refine take_val (i := 7) (v := .iface T2 p2) rfl rfl (by kernel_rfl) (by kernel_rfl) (by kernel_rfl) (fun _ _ _ h => h) rfl (by intro wq hq; (try go_split_ands); go_simp; try with_reducible rfl) (hHeld) ?_; try simp only [List.setIfInBounds_toArray, List.set_cons_zero, List.set_cons_succ])
          (refine take_val (i := 8) (v := .int .i64 x2) rfl rfl (by kernel_rfl) (by kernel_rfl) (by kernel_rfl) (fun _ _ _ h => h) rfl (by intro wq hq; (try go_split_ands); go_simp; try with_reducible rfl) (hHeld) ?_; try simp only [List.setIfInBounds_toArray, List.set_cons_zero, List.set_cons_succ])
          (refine take_val (i := 9) (v := .bool false) rfl rfl (by kernel_rfl) (by kernel_rfl) (by kernel_rfl) (fun _ _ _ h => h) rfl (by intro wq hq; (try go_split_ands); go_simp; try with_reducible rfl) (hHeld) ?_; try simp only [List.setIfInBounds_toArray, List.set_cons_zero, List.set_cons_succ])
          (refine wpAnyH_ready (rs := [4]) (by kernel_rfl) (by simp) ?_; refine AllReadyH.cons rfl (fun K hK => ?_) AllReadyH.nil; go_simp)
          refine (IQ1.out _).mono ?_; rintro e w5 ⟨rfl, hk5⟩
          have B2 := B1.kept hk5
          (refine hK.out _ _ (⟨B2.cell 0, B2.cell 1, B2.cell 2⟩) (fun _ => ?_); clear hK K; try simp only [Act.put, List.setIfInBounds_toArray, List.set_cons_zero, List.set_cons_succ])
          (refine take_val (i := 5) (v := .string (⟨t1.toArray⟩ ++ ⟨#[38]⟩)) rfl rfl (by kernel_rfl) (by kernel_rfl) (by kernel_rfl) (fun _ _ _ h => h) rfl (by intro wq hq; (try go_split_ands); go_simp; (try with_reducible rfl); (try omega)) (⟨B2.cell 0, B2.cell 1, B2.cell 2⟩) ?_; try simp only [List.setIfInBounds_toArray, List.set_cons_zero, List.set_cons_succ])
          (refine take_val (i := 10) (v := .bool false) rfl rfl (by kernel_rfl) (by kernel_rfl) (by kernel_rfl) (fun _ _ _ h => h) rfl (by intro wq hq; (try go_split_ands); go_simp; try with_reducible rfl) (⟨B2.cell 0, B2.cell 1, B2.cell 2⟩) ?_; try simp only [List.setIfInBounds_toArray, List.set_cons_zero, List.set_cons_succ])
          (refine take_val (i := 11) (v := .int .i64 x2) rfl rfl (by kernel_rfl) (by kernel_rfl) (by kernel_rfl) (fun _ _ _ h => h) rfl (by intro wq hq; (try go_split_ands); go_simp; try with_reducible rfl) (⟨B2.cell 0, B2.cell 1, B2.cell 2⟩) ?_; try simp only [List.setIfInBounds_toArray, List.set_cons_zero, List.set_cons_succ])
          (refine take_val (i := 12) (v := .bool false) rfl rfl (by kernel_rfl) (by kernel_rfl) (by kernel_rfl) (fun _ _ _ h => h) rfl (by intro wq hq; (try go_split_ands); go_simp; try with_reducible rfl) (⟨B2.cell 0, B2.cell 1, B2.cell 2⟩) ?_; try simp only [List.setIfInBounds_toArray, List.set_cons_zero, List.set_cons_succ])
          (refine take_val (i := 13) (v := .bool false) rfl rfl (by kernel_rfl) (by kernel_rfl) (by kernel_rfl) (fun _ _ _ h => h) rfl (by intro wq hq; (try go_split_ands); go_simp; try with_reducible rfl) (⟨B2.cell 0, B2.cell 1, B2.cell 2⟩) ?_; try simp only [List.setIfInBounds_toArray, List.set_cons_zero, List.set_cons_succ])
          (refine wpAnyH_ready (rs := [14]) (by kernel_rfl) (by simp) ?_; refine AllReadyH.cons rfl (fun K hK => ?_) AllReadyH.nil; go_simp)
          refine (IQ2.out _).mono ?_; rintro e w6 ⟨rfl, hk6⟩
          have B4 := B2.kept hk6
          (refine hK.out _ _ (⟨B4.cell 0, B4.cell 1, B4.cell 2⟩) (fun _ => ?_); clear hK K; try simp only [Act.put, List.setIfInBounds_toArray, List.set_cons_zero, List.set_cons_succ])
          (refine take_val (i := 15) (v := .string (⟨t1.toArray⟩ ++ ⟨#[38]⟩ ++ ⟨t2.toArray⟩)) rfl rfl (by kernel_rfl) (by kernel_rfl) (by kernel_rfl) (fun _ _ _ h => h) rfl (by intro wq hq; (try go_split_ands); go_simp; (try with_reducible rfl); (try omega)) (⟨B4.cell 0, B4.cell 1, B4.cell 2⟩) ?_; try simp only [List.setIfInBounds_toArray, List.set_cons_zero, List.set_cons_succ])
          (refine take_val (i := 16) (v := .string (⟨t1.toArray⟩ ++ ⟨#[38]⟩ ++ ⟨t2.toArray⟩)) rfl rfl (by kernel_rfl) (by kernel_rfl) (by kernel_rfl) (fun _ _ _ h => h) rfl (by intro wq hq; (try go_split_ands); go_simp; (try with_reducible rfl); (try omega)) (⟨B4.cell 0, B4.cell 1, B4.cell 2⟩) ?_; try simp only [List.setIfInBounds_toArray, List.set_cons_zero, List.set_cons_succ])
          refine wpAnyH_done (by kernel_rfl) ?_ _
          go_wp2_with fail
          go_ret
          exact ⟨congrArg (fun x => Ending.returned (.string x)) HJ.out, ((hk3'.trans hkd).trans hk5).trans hk6⟩
    · have HT : Hid ((Sp.Cond.two 9 d1 d2).txt = Sp.brk false d1.txt ++ 124 :: Sp.brk (d2.last == 9) d2.txt) := by
        show _ = _
        rw [← HM1.out.2.2, ← HM2.out.2.1]; rfl
      show Calls Try.prog 95 #[.iface 125 (.agg #[.int .i64 9, condV d1, condV d2])] w (RetK (.string ⟨((Sp.Cond.two 9 d1 d2).txt).toArray⟩) w)
      rw [e1] at IP1 IL1 ⊢
      rw [e2] at IP2 IL2 ⊢
      rw [HT.out]
      clear HT HM1 HM2 e1 e2
      obtain ⟨b1, hb1⟩ : ∃ b, Hid (false = b) := ⟨_, rfl⟩
      obtain ⟨b2, hb2⟩ : ∃ b, Hid ((d2.last == 9) = b) := ⟨_, rfl⟩
      rw [hb1.out, hb2.out]
      generalize d1.last = x1 at *
      generalize d2.last = x2 at *
      have hn1 := HN.out.1 b1
      have hn2 := HN.out.2 b2
      have HJ : Hid ((⟨(Sp.brk b1 d1.txt).toArray⟩ : ByteArray) ++ ⟨#[124]⟩ ++ ⟨(Sp.brk b2 d2.txt).toArray⟩ = ⟨(Sp.brk b1 d1.txt ++ 124 :: Sp.brk b2 d2.txt).toArray⟩) := by
        show _ = _
        rw [str_add1, str_add]; simp
      have IQ1 := Lib.hid (IP1.out b1)
      have IQ2 := Lib.hid (IP2.out b2)
      generalize Sp.brk b1 d1.txt = t1 at *
      generalize Sp.brk b2 d2.txt = t2 at *
      clear IP1 IP2
      have hk0 := (Kept.refl w).alloc (.cells #[.int .i64 9, .iface T1 p1, .iface T2 p2] 125)
      have B0 := Blk.new w 125 #[.int .i64 9, .iface T1 p1, .iface T2 p2]
      go_enter Try.func95, Try.ntmps95
      go_wp2_with fail
      obtain ⟨D, HD⟩ : ∃ D, Hid (w.heap.size = D) := ⟨_, rfl⟩
      obtain ⟨w1, HW1⟩ : ∃ w1, Hid (w.alloc (.cells #[.int .i64 9, .iface T1 p1, .iface T2 p2] 125) = w1) := ⟨_, rfl⟩
      rw [HD.out, HW1.out] at B0 ⊢
      rw [HW1.out] at hk0
      have hkd := (Kept.refl w1).drew
      have B1 := B0.kept hkd
      refine wp_region_held_drew (S := (fun w' => w'.cell? ⟨D, 0, none⟩ = some (.int .i64 9) ∧ w'.cell? ⟨D, 1, none⟩ = some (.iface T1 p1) ∧ w'.cell? ⟨D, 2, none⟩ = some (.iface T2 p2))) (by kernel_rfl) ⟨B1.cell 0, B1.cell 1, B1.cell 2⟩ (fun hHeld => ?_)
      (refine take_val (i := 0) (v := .pointer (some ⟨D, 1, none⟩)) rfl rfl (by kernel_rfl) (by kernel_rfl) (by kernel_rfl) (fun _ _ _ h => h) rfl (by intro wq hq; (try go_split_ands); go_simp; try with_reducible rfl) (hHeld) ?_; try simp only [List.setIfInBounds_toArray, List.set_cons_zero, List.set_cons_succ])
      (refine take_val (i := 1) (v := .iface T1 p1) rfl rfl (by kernel_rfl) (by kernel_rfl) (by kernel_rfl) (fun _ _ _ h => h) rfl (by intro wq hq; (try go_split_ands); go_simp; try with_reducible rfl) (hHeld) ?_; try simp only [List.setIfInBounds_toArray, List.set_cons_zero, List.set_cons_succ])
      (refine take_val (i := 3) (v := .pointer (some ⟨D, 2, none⟩)) rfl rfl (by kernel_rfl) (by kernel_rfl) (by kernel_rfl) (fun _ _ _ h => h) rfl (by intro wq hq; (try go_split_ands); go_simp; try with_reducible rfl) (hHeld) ?_; try simp only [List.setIfInBounds_toArray, List.set_cons_zero, List.set_cons_succ])
      (refine take_val (i := 4) (v := .iface T2 p2) rfl rfl (by kernel_rfl) (by kernel_rfl) (by kernel_rfl) (fun _ _ _ h => h) rfl (by intro wq hq; (try go_split_ands); go_simp; try with_reducible rfl) (hHeld) ?_; try simp only [List.setIfInBounds_toArray, List.set_cons_zero, List.set_cons_succ])
      (refine wpAnyH_ready (rs := [2]) (by kernel_rfl) (by simp) ?_; refine AllReadyH.cons rfl (fun K hK => ?_) AllReadyH.nil; go_simp)
      refine (IL1.out _).mono ?_; rintro e w2 ⟨rfl, hk2⟩
      have B2 := B1.kept hk2
      (refine hK.out _ _ (⟨B2.cell 0, B2.cell 1, B2.cell 2⟩) (fun _ => ?_); clear hK K; try simp only [Act.put, List.setIfInBounds_toArray, List.set_cons_zero, List.set_cons_succ])
      (refine wpAnyH_ready (rs := [5]) (by kernel_rfl) (by simp) ?_; refine AllReadyH.cons rfl (fun K hK => ?_) AllReadyH.nil; go_simp)
      refine (IL2.out _).mono ?_; rintro e w3 ⟨rfl, hk3⟩
      have B3 := B2.kept hk3
      (refine hK.out _ _ (⟨B3.cell 0, B3.cell 1, B3.cell 2⟩) (fun _ => ?_); clear hK K; try simp only [Act.put, List.setIfInBounds_toArray, List.set_cons_zero, List.set_cons_succ])
      (refine take_val (i := 6) (v := .int .i64 x1) rfl rfl (by kernel_rfl) (by kernel_rfl) (by kernel_rfl) (fun _ _ _ h => h) rfl (by intro wq hq; (try go_split_ands); go_simp; try with_reducible rfl) (⟨B3.cell 0, B3.cell 1, B3.cell 2⟩) ?_; try simp only [List.setIfInBounds_toArray, List.set_cons_zero, List.set_cons_succ])
      (refine take_val (i := 7) (v := .int .i64 x2) rfl rfl (by kernel_rfl) (by kernel_rfl) (by kernel_rfl) (fun _ _ _ h => h) rfl (by intro wq hq; (try go_split_ands); go_simp; try with_reducible rfl) (⟨B3.cell 0, B3.cell 1, B3.cell 2⟩) ?_; try simp only [List.setIfInBounds_toArray, List.set_cons_zero, List.set_cons_succ])
      refine wpAnyH_done (by kernel_rfl) ?_ _
      have hk3' := ((hk0.trans hkd).trans hk2).trans hk3
      have c3 := B3.cell
      clear hk2 hk3 B1 B2 hHeld
      go_wp2_with fail
      clear c3
      have hkd := (Kept.refl w3).drew
      have B1 := B3.kept hkd
      have hB2 : (x2 == 9) = b2 := hb2.out
      obtain rfl : b1 = false := hb1.out.symm
      refine wp_region_held_drew (S := (fun w' => w'.cell? ⟨D, 0, none⟩ = some (.int .i64 9) ∧ w'.cell? ⟨D, 1, none⟩ = some (.iface T1 p1) ∧ w'.cell? ⟨D, 2, none⟩ = some (.iface T2 p2))) (by kernel_rfl) ⟨B1.cell 0, B1.cell 1, B1.cell 2⟩ (fun hHeld => ?_)
      (refine take_val (i := 0) (v := .pointer (some ⟨D, 1, none⟩)) rfl rfl (by kernel_rfl) (by kernel_rfl) (by kernel_rfl) (fun _ _ _ h => h) rfl (by intro wq hq; (try go_split_ands); go_simp; try with_reducible rfl) (hHeld) ?_; try simp only [List.setIfInBounds_toArray, List.set_cons_zero, List.set_cons_succ])
      (refine take_val (i := 1) (v := .iface T1 p1) rfl rfl (by kernel_rfl) (by kernel_rfl) (by kernel_rfl) (fun _ _ _ h => h) rfl (by intro wq hq; (try go_split_ands); go_simp; try with_reducible rfl) (hHeld) ?_; try simp only [List.setIfInBounds_toArray, List.set_cons_zero, List.set_cons_succ])
      (refine take_val (i := 4) (v := .pointer (some ⟨D, 2, none⟩)) rfl rfl (by kernel_rfl) (by kernel_rfl) (by kernel_rfl) (fun _ _ _ h => h) rfl (by intro wq hq; (try go_split_ands); go_simp; try with_reducible rfl) (hHeld) ?_; try simp only [List.setIfInBounds_toArray, List.set_cons_zero, List.set_cons_succ])
      (refine take_val (i := 5) (v := .iface T2 p2) rfl rfl (by kernel_rfl) (by kernel_rfl) (by kernel_rfl) (fun _ _ _ h => h) rfl (by intro wq hq; (try go_split_ands); go_simp; try with_reducible rfl) (hHeld) ?_; try simp only [List.setIfInBounds_toArray, List.set_cons_zero, List.set_cons_succ])
      (refine take_val (i := 6) (v := .int .i64 x2) rfl rfl (by kernel_rfl) (by kernel_rfl) (by kernel_rfl) (fun _ _ _ h => h) rfl (by intro wq hq; (try go_split_ands); go_simp; try with_reducible rfl) (hHeld) ?_; try simp only [List.setIfInBounds_toArray, List.set_cons_zero, List.set_cons_succ])
      (refine take_val (i := 7) (v := .bool b2) rfl rfl (by kernel_rfl) (by kernel_rfl) (by kernel_rfl) (fun _ _ _ h => h) rfl (by intro wq hq; (try go_split_ands); go_simp; try with_reducible rfl) (hHeld) ?_; try simp only [List.setIfInBounds_toArray, List.set_cons_zero, List.set_cons_succ])
      (refine wpAnyH_ready (rs := [2]) (by kernel_rfl) (by simp) ?_; refine AllReadyH.cons rfl (fun K hK => ?_) AllReadyH.nil; go_simp)
      refine (IQ1.out _).mono ?_; rintro e w5 ⟨rfl, hk5⟩
      have B2 := B1.kept hk5
      (refine hK.out _ _ (⟨B2.cell 0, B2.cell 1, B2.cell 2⟩) (fun _ => ?_); clear hK K; try simp only [Act.put, List.setIfInBounds_toArray, List.set_cons_zero, List.set_cons_succ])
      (refine take_val (i := 3) (v := .string (⟨t1.toArray⟩ ++ ⟨#[124]⟩)) rfl rfl (by kernel_rfl) (by kernel_rfl) (by kernel_rfl) (fun _ _ _ h => h) rfl (by intro wq hq; (try go_split_ands); go_simp; (try with_reducible rfl); (try omega)) (⟨B2.cell 0, B2.cell 1, B2.cell 2⟩) ?_; try simp only [List.setIfInBounds_toArray, List.set_cons_zero, List.set_cons_succ])
      (refine wpAnyH_ready (rs := [8]) (by kernel_rfl) (by simp) ?_; refine AllReadyH.cons rfl (fun K hK => ?_) AllReadyH.nil; go_simp)
      refine (IQ2.out _).mono ?_; rintro e w6 ⟨rfl, hk6⟩
      have B4 := B2.kept hk6
      (refine hK.out _ _ (⟨B4.cell 0, B4.cell 1, B4.cell 2⟩) (fun _ => ?_); clear hK K; try simp only [Act.put, List.setIfInBounds_toArray, List.set_cons_zero, List.set_cons_succ])
      (refine take_val (i := 9) (v := .string (⟨t1.toArray⟩ ++ ⟨#[124]⟩ ++ ⟨t2.toArray⟩)) rfl rfl (by kernel_rfl) (by kernel_rfl) (by kernel_rfl) (fun _ _ _ h => h) rfl (by intro wq hq; (try go_split_ands); go_simp; (try with_reducible rfl); (try omega)) (⟨B4.cell 0, B4.cell 1, B4.cell 2⟩) ?_; try simp only [List.setIfInBounds_toArray, List.set_cons_zero, List.set_cons_succ])
      (refine take_val (i := 10) (v := .string (⟨t1.toArray⟩ ++ ⟨#[124]⟩ ++ ⟨t2.toArray⟩)) rfl rfl (by kernel_rfl) (by kernel_rfl) (by kernel_rfl) (fun _ _ _ h => h) rfl (by intro wq hq; (try go_split_ands); go_simp; (try with_reducible rfl); (try omega)) (⟨B4.cell 0, B4.cell 1, B4.cell 2⟩) ?_; try simp only [List.setIfInBounds_toArray, List.set_cons_zero, List.set_cons_succ])
      refine wpAnyH_done (by kernel_rfl) ?_ _
      go_wp2_with fail
      go_ret
      exact ⟨congrArg (fun x => Ending.returned (.string x)) HJ.out, ((hk3'.trans hkd).trans hk5).trans hk6⟩

end Go.Proofs.Ytphdojebdclonaa
