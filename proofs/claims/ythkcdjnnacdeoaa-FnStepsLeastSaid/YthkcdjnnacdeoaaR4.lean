/- Walks: GoalOne. No condition. -/
import Derived.Test.YthkcdjnnacdeoaaR0
namespace Go.Proofs.Ythkcdjnnacdeoaa
open Go.RowKit

/-- a task laid in a box, and read from there later -/
theorem TaskV.box {w : World} {A A' : Option Addr} {n c n' c' : Nat} {t : Sp.Task} {T : TypeId} (h : TaskV w (.agg #[.int .i64 t.start, .slice A n c, .slice A' n' c']) t) :
    TaskV (w.alloc (.cells #[.int .i64 t.start, .slice A n c, .slice A' n' c'] T)) (.agg #[.int .i64 t.start, .slice A n c, .slice A' n' c']) t := h.keep ((Kept.refl w).alloc _)

theorem TaskV.goal {w : World} {A A' : Option Addr} {n c n' c' : Nat} {t : Sp.Task} (h : TaskV w (.agg #[.int .i64 t.start, .slice A n c, .slice A' n' c']) t) : Ints w A n t.goal := by
  obtain ⟨A1, n1, c1, A2, n2, c2, e, h1, _⟩ := h
  simp only [Value.agg.injEq, Array.mk.injEq, List.cons.injEq, Value.slice.injEq, and_true, true_and] at e
  obtain ⟨⟨rfl, rfl, rfl⟩, _⟩ := e
  exact h1
theorem TaskV.deeds {w : World} {A A' : Option Addr} {n c n' c' : Nat} {t : Sp.Task} (h : TaskV w (.agg #[.int .i64 t.start, .slice A n c, .slice A' n' c']) t) : Deeds w A' n' t.deeds := by
  obtain ⟨A1, n1, c1, A2, n2, c2, e, _, h1, _⟩ := h
  simp only [Value.agg.injEq, Array.mk.injEq, List.cons.injEq, Value.slice.injEq, and_true, true_and] at e
  obtain ⟨_, rfl, rfl, rfl⟩ := e
  exact h1

theorem c_iGoalOne (v : Value) (t : Sp.Task) (w : World) (h : TaskV w v t) : Calls Try.prog 58 #[v] w (RetK (.int .i64 (Sp.goalOne t)) w) := by
  obtain ⟨A, n, c, A', n', c', rfl⟩ := h.form
  have hk0 := (Kept.refl w).alloc (.cells #[.int .i64 t.start, .slice A n c, .slice A' n' c'] 26)
  have B0 := Blk.new w 26 #[.int .i64 t.start, .slice A n c, .slice A' n' c']
  go_enter Try.func58, Try.ntmps58
  go_wp2_with fail
  refine (c_iTaskValid _ t _ h.box).mono ?_; rintro e w2 ⟨rfl, hk2⟩
  replace hk0 := hk0.trans hk2
  replace B0 := B0.kept hk2
  have c0 := B0.cell
  cases hto : Sp.taskOk t
  · have HE : Hid (Sp.goalOne t = -1) := by show _ = _; unfold Sp.goalOne; rw [if_neg (by simp [hto])]
    clear hto
    go_wp2_with fail
    go_ret
    exact ⟨ret_int HE.out.symm, hk0⟩
  have HE : Hid (Sp.goalOne t = Sp.oneOf (Sp.run t.goal)) := by show _ = _; unfold Sp.goalOne; rw [if_pos hto]
  have HC : Hid (Sp.codeTruth t.goal = (Sp.setOf 32 (Sp.run t.goal) : Nat)) := by show _ = _; unfold Sp.codeTruth; rw [if_pos (Sp.taskOk_goal hto)]; rfl
  clear hto
  go_wp2_with fail
  refine (c_iCodeTruth _ _ _ _ _ (h.keep hk0).goal).mono ?_; rintro e w3 ⟨rfl, hk3⟩
  rw [HC.out]
  replace hk0 := hk0.trans hk3
  go_wp2_with fail
  go_loop [11] (fun i => ∃ k : Nat, k ≤ 32 ∧ i = .int .i64 k ∧ Hid (∀ s, s < k → Sp.setOf 32 (Sp.run t.goal) ≠ 2 ^ s)) (fun i => 32 - (intOf i).toNat)
  case atStart => exact ⟨0, by omega, rfl, by show ∀ s, s < 0 → _; omega⟩
  case round =>
    obtain ⟨k, hk, rfl, HN⟩ := hrel
    by_cases hlt : k < 32
    · have hsh := bin_shl_one k (by omega)
      have HP := Lib.hid (p2_nat k)
      by_cases he : Sp.setOf 32 (Sp.run t.goal) = 2 ^ k
      · have hq : ((Sp.setOf 32 (Sp.run t.goal) : Int) == p2 k) = true := by rw [HP.out, he]; simp
        have HO := Lib.hid (one_yes hlt he)
        clear he
        go_wp2_with fail
        go_ret
        exact ⟨ret_int (by rw [HE.out, HO.out]), hk0⟩
      · have hq : ((Sp.setOf 32 (Sp.run t.goal) : Int) == p2 k) = false := by rw [HP.out]; simp only [beq_eq_false_iff_ne, ne_eq]; exact_mod_cast he
        have HN' : Hid (∀ s, s < k + 1 → Sp.setOf 32 (Sp.run t.goal) ≠ 2 ^ s) := by
          intro s hs
          by_cases e : s = k
          · subst e; exact he
          · exact HN.out s (by omega)
        clear he
        go_wp2_with fail
        exact ⟨⟨k + 1, by omega, by go_num, HN'⟩, by simp [intOf]; omega⟩
    · obtain rfl : k = 32 := by omega
      go_wp2_with fail
      go_ret
      exact ⟨ret_int (by rw [HE.out, one_no HN.out]), hk0⟩

























































































end Go.Proofs.Ythkcdjnnacdeoaa
