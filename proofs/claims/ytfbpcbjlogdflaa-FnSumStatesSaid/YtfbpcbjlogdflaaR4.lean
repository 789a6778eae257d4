/- Walks: GoalOne. No condition. -/
import Derived.Test.YtfbpcbjlogdflaaR3
namespace Go.Proofs.Ytfbpcbjlogdflaa
open Go.RowKit

/-- a task laid in a box, and read from there later -/
theorem TaskV.box {w : World} {A A' : Option Addr} {n c n' c' : Nat} {t : Sp.Task} {T : TypeId} (h : TaskV w (.agg #[.int .i64 t.start, .slice A n c, .slice A' n' c']) t) :
    TaskV (w.alloc (.cells #[.int .i64 t.start, .slice A n c, .slice A' n' c'] T)) (.agg #[.int .i64 t.start, .slice A n c, .slice A' n' c']) t := h.keep ((Kept.refl w).alloc _)

theorem TaskV.goal {w : World} {A A' : Option Addr} {n c n' c' : Nat} {t : Sp.Task} (h : TaskV w (.agg #[.int .i64 t.start, .slice A n c, .slice A' n' c']) t) : Ints w A n t.goal := by
  obtain ⟨A1, n1, c1, A2, n2, c2, e, h1, _⟩ := h
  simp only [Value.agg.injEq, Array.mk.injEq, List.cons.injEq, Value.slice.injEq, and_true, true_and] at e
  obtain ⟨⟨rfl, rfl, rfl⟩, _⟩ := e
  exact h1
theorem TaskV.deeds {w : World} {A A' : Option Addr} {n c n' c' : Nat} {t : Sp.Task} (h : TaskV w (.agg #[.int .i64 t.start, .slice A n c, .slice A' n' c']) t) : Deeds w A' n' t.deeds := by
  obtain ⟨A1, n1, c1, A2, n2, c2, e, _, h1, _⟩ := h
  simp only [Value.agg.injEq, Array.mk.injEq, List.cons.injEq, Value.slice.injEq, and_true, true_and] at e
  obtain ⟨_, rfl, rfl, rfl⟩ := e
  exact h1

theorem c_iGoalOne (v : Value) (t : Sp.Task) (w : World) (h : TaskV w v t) : Calls Try.prog 52 #[v] w (RetK (.int .i64 (Sp.goalOne t)) w) := by
  obtain ⟨A, n, c, A', n', c', rfl⟩ := h.form
  have hk0 := (Kept.refl w).alloc (.cells #[.int .i64 t.start, .slice A n c, .slice A' n' c'] 30)
  have B0 := Blk.new w 30 #[.int .i64 t.start, .slice A n c, .slice A' n' c']
  go_enter Try.func52, Try.ntmps52
  go_wp2_with fail
  refine (c_iTaskValid _ t _ h.box).mono ?_; rintro e w2 ⟨rfl, hk2⟩
  replace hk0 := hk0.trans hk2
  replace B0 := B0.kept hk2
  have c0 := B0.cell
  cases hto : Sp.taskOk t
  · have HE : Hid (Sp.goalOne t = -1) := by show _ = _; unfold Sp.goalOne; rw [if_neg (by simp [hto])]
    clear hto
    go_wp2_with fail
    go_ret
    exact ⟨ret_int HE.out.symm, hk0⟩
  have HE : Hid (Sp.goalOne t = Sp.oneOf (Sp.run t.goal)) := by show _ = _; unfold Sp.goalOne; rw [if_pos hto]
  have HC : Hid (Sp.codeTruth t.goal = (Sp.setOf 32 (Sp.run t.goal) : Nat)) := by show _ = _; unfold Sp.codeTruth; rw [if_pos (Sp.taskOk_goal hto)]; rfl
  clear hto
  go_wp2_with fail
  refine (c_iCodeTruth _ _ _ _ _ (h.keep hk0).goal).mono ?_; rintro e w3 ⟨rfl, hk3⟩
  rw [HC.out]
  replace hk0 := hk0.trans hk3
  go_wp2_with fail
  go_loop [11] (fun i => ∃ k : Nat, k ≤ 32 ∧ i = .int .i64 k ∧ Hid (∀ s, s < k → Sp.setOf 32 (Sp.run t.goal) ≠ 2 ^ s)) (fun i => 32 - (intOf i).toNat)
  case atStart => exact ⟨0, by omega, rfl, by show ∀ s, s < 0 → _; omega⟩
  case round =>
    obtain ⟨k, hk, rfl, HN⟩ := hrel
    by_cases hlt : k < 32
    · have hsh := bin_shl_one k (by omega)
      have HP := Lib.hid (p2_nat k)
      by_cases he : Sp.setOf 32 (Sp.run t.goal) = 2 ^ k
      · have hq : ((Sp.setOf 32 (Sp.run t.goal) : Int) == p2 k) = true := by rw [HP.out, he]; simp
        have HO := Lib.hid (one_yes hlt he)
        clear he
        go_wp2_with fail
        go_ret
        exact ⟨ret_int (by rw [HE.out, HO.out]), hk0⟩
      · have hq : ((Sp.setOf 32 (Sp.run t.goal) : Int) == p2 k) = false := by rw [HP.out]; simp only [beq_eq_false_iff_ne, ne_eq]; exact_mod_cast he
        have HN' : Hid (∀ s, s < k + 1 → Sp.setOf 32 (Sp.run t.goal) ≠ 2 ^ s) := by
          intro s hs
          by_cases e : s = k
          · subst e; exact he
          · exact HN.out s (by omega)
        clear he
        go_wp2_with fail
        exact ⟨⟨k + 1, by omega, by go_num, HN'⟩, by simp [intOf]; omega⟩
    · obtain rfl : k = 32 := by omega
      go_wp2_with fail
      go_ret
      exact ⟨ret_int (by rw [HE.out, one_no HN.out]), hk0⟩

theorem c_sGoalOne (v : Value) (t : Sp.Task) (w : World) (h : TaskV w v t) : Calls Try.prog 53 #[v] w (RetK (.int .i64 (Sp.goalOne t)) w) := by
  obtain ⟨A, n, c, A', n', c', rfl⟩ := h.form
  have hk0 := (Kept.refl w).alloc (.cells #[.int .i64 t.start, .slice A n c, .slice A' n' c'] 30)
  have B0 := Blk.new w 30 #[.int .i64 t.start, .slice A n c, .slice A' n' c']
  cases hto : Sp.taskOk t
  · have HE : Hid (Sp.goalOne t = -1) := by show _ = _; unfold Sp.goalOne; rw [if_neg (by simp [hto])]
    have HT := Lib.hid hto
    clear hto
    go_enter Try.func53, Try.ntmps53
    go_wp2_with fail
    refine wp_loop_rounds 1 ?_
    rw [rounds_succ]
    go_wp2_with fail
    refine (c_sTaskValid _ t _ h.box).mono ?_; rintro e w2 ⟨rfl, hk2⟩
    rw [HT.out]
    go_wp2_with fail
    go_ret
    exact ⟨ret_int HE.out.symm, hk0.trans hk2⟩
  have HE : Hid (Sp.goalOne t = Sp.oneOf (Sp.run t.goal)) := by show _ = _; unfold Sp.goalOne; rw [if_pos hto]
  have HG := Lib.hid (Sp.taskOk_goal hto)
  have HT := Lib.hid hto
  clear hto
  go_enter Try.func53, Try.ntmps53
  go_wp2_with fail
  go_loopw [3, 4] (fun x i wr => ∃ (k : Nat) (f : Int), k ≤ 32 ∧ i = .int .i64 k ∧ x = .int .i64 f ∧ Kept w wr ∧ Blk wr w.heap.size 30 #[.int .i64 t.start, .slice A n c, .slice A' n' c'] ∧
    Hid ((f = -1 ∧ ∀ s, s < k → Sp.run t.goal s = false) ∨ (∃ a : Nat, f = a ∧ a < k ∧ Sp.run t.goal a = true ∧ ∀ s, s < k → s ≠ a → Sp.run t.goal s = false))) (fun _ i _ => 32 - (intOf i).toNat)
  case atStart => exact ⟨0, -1, by omega, rfl, rfl, hk0, B0, .inl ⟨rfl, by omega⟩⟩
  case round =>
    obtain ⟨k, f, hk, rfl, rfl, hkp, hB, HF⟩ := hrel
    have c0 := hB.cell
    by_cases hlt : k < 32
    · go_wp2_with fail
      refine (c_sTaskValid _ t _ (h.keep hkp)).mono ?_; rintro e w2 ⟨rfl, hk2⟩
      rw [HT.out]
      replace hB := hB.kept hk2
      replace hkp := hkp.trans hk2
      clear c0 hk2
      have c0 := hB.cell
      go_wp2_with fail
      refine (c_l5Run _ _ _ _ _ _ (h.keep hkp).goal HG.out (by omega) (by omega)).mono ?_; rintro e w3 ⟨rfl, hk3⟩
      rw [Int.toNat_natCast]
      replace hB := hB.kept hk3
      replace hkp := hkp.trans hk3
      clear c0 hk3
      have c0 := hB.cell
      cases hev : Sp.run t.goal k
      · have HV := Lib.hid hev
        clear hev
        go_wp2_with fail
        refine (c_l5Run _ _ _ _ _ _ (h.keep hkp).goal HG.out (by omega) (by omega)).mono ?_; rintro e w4 ⟨rfl, hk4⟩
        rw [Int.toNat_natCast, HV.out]
        go_wp2_with fail
        refine ⟨⟨k + 1, f, by omega, by go_num, rfl, hkp.trans hk4, hB.kept hk4, ?_⟩, by simp [intOf]; omega⟩
        rcases HF.out with ⟨h1, h2⟩ | ⟨a, h1, h2, h3, h4⟩
        · refine .inl ⟨h1, fun s hs => ?_⟩
          by_cases e : s = k
          · subst e; exact HV.out
          · exact h2 s (by omega)
        · refine .inr ⟨a, h1, by omega, h3, fun s hs hsa => ?_⟩
          by_cases e : s = k
          · subst e; exact HV.out
          · exact h4 s (by omega) hsa
      · have HV := Lib.hid hev
        clear hev
        by_cases hf : 0 ≤ f
        · have HX : Hid (Sp.oneOf (Sp.run t.goal) = -1) := by
            rcases HF.out with ⟨h1, h2⟩ | ⟨a, h1, h2, h3, h4⟩
            · omega
            · exact one_two (a := a) (b := k) (by omega) hlt (by omega) h3 HV.out
          go_wp2_with fail
          go_ret
          exact ⟨ret_int (by rw [HE.out, HX.out]), hkp⟩
        · go_wp2_with fail
          refine (c_l5Run _ _ _ _ _ _ (h.keep hkp).goal HG.out (by omega) (by omega)).mono ?_; rintro e w4 ⟨rfl, hk4⟩
          rw [Int.toNat_natCast, HV.out]
          go_wp2_with fail
          refine ⟨⟨k + 1, k, by omega, by go_num, rfl, hkp.trans hk4, hB.kept hk4, ?_⟩, by simp [intOf]; omega⟩
          rcases HF.out with ⟨h1, h2⟩ | ⟨a, h1, h2, h3, h4⟩
          · refine .inr ⟨k, rfl, by omega, HV.out, fun s hs hsk => h2 s (by omega)⟩
          · omega
    · obtain rfl : k = 32 := by omega
      go_wp2_with fail
      go_ret
      refine ⟨ret_int ?_, hkp⟩
      rcases HF.out with ⟨h1, h2⟩ | ⟨a, h1, h2, h3, h4⟩
      · rw [HE.out, one_none h2, h1]
      · rw [HE.out, one_only h2 h3 h4, h1]

end Go.Proofs.Ytfbpcbjlogdflaa
