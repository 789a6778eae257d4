/- Walks: the law's own set of both; the program's StatesNext, StatesBack; draws of sets of states. No condition. -/
import Derived.Test.YtjmpfemlihjibaaDoorA1
import Derived.Test.YtjmpfemlihjibaaDoorG7
import Derived.Test.YtjmpfemlihjibaaDoorD4
namespace Go.Proofs.YtjmpfemlihjibaaDoor
open Go.RowKit

theorem and_lt32 {a b : Nat} (ha : a < 4294967296) : a &&& b < 4294967296 := Nat.lt_of_le_of_lt Nat.and_le_left ha
theorem setOf_and {a b n : Nat} (ha : a < 4294967296) (hn : 32 ≤ n) : Sp.setOf n (fun i => a.testBit i && b.testBit i) = a &&& b := by
  refine Nat.eq_of_testBit_eq fun i => ?_
  rw [Sp.testBit_setOf, Nat.testBit_and]
  by_cases h : i < n
  · simp [h]
  · rw [Sp.bit_ge ha (by omega)]; simp
theorem setOf_lt2 (n : Nat) (f : Nat → Bool) : Sp.setOf n f < 2 ^ n := Sp.setOf_lt n f

set_option maxHeartbeats 1000000 in
theorem c_lboth (a b : Nat) (w : World) (ha : a < 4294967296) (hb : b < 4294967296) : Calls Tryd.prog 34 #[.int .i64 (a : Int), .int .i64 (b : Int)] w (Ret (.int .i64 ((a &&& b : Nat) : Int)) w) := by
  have ha0 : (0 : Int) ≤ (a : Int) := by omega
  have hb0 : (0 : Int) ≤ (b : Int) := by omega
  go_enter Tryd.func34, Tryd.ntmps34
  go_wp2_with fail
  go_loop [6, 5] (fun i o => ∃ k : Nat, k ≤ 40 ∧ i = .int .i64 k ∧ o = .int .i64 (Sp.setOf k (fun i => a.testBit i && b.testBit i) : Nat)) (fun i _ => 40 - (intOf i).toNat)
  case atStart => exact ⟨0, by omega, rfl, rfl⟩
  case round =>
    obtain ⟨k, hk, rfl, rfl⟩ := hrel
    by_cases hlt : k < 40
    · have hbd : Sp.setOf k (fun i => a.testBit i && b.testBit i) < 1099511627776 := Nat.lt_of_lt_of_le (setOf_lt2 _ _) (Nat.pow_le_pow_right (by decide) (show k ≤ 40 by omega))
      have hsh := bin_shl_one k (by omega)
      have HP := Lib.hid (p2_nat k)
      have hp2 := p2_62 k (by omega)
      have HY := Lib.hid (setOf_step_yes k (fun i => a.testBit i && b.testBit i))
      have HN := Lib.hid (setOf_step_no k (fun i => a.testBit i && b.testBit i))
      have ht1 := tmod_bit a k
      have ht2 := tmod_bit b k
      have hpk : p2 k ≤ 1099511627776 := by
        rw [p2_nat]
        have : 2 ^ k ≤ 2 ^ 40 := Nat.pow_le_pow_right (by decide) (by omega)
        omega
      generalize Sp.setOf k (fun i => a.testBit i && b.testBit i) = T at *
      cases h1 : a.testBit k
      · have HX := Lib.hid (HN.out (by rw [h1]; rfl))
        rw [h1] at ht1
        clear h1
        go_wp2_with fail
        exact ⟨⟨k + 1, by omega, by go_num, by rw [HX.out]⟩, by simp [intOf]; omega⟩
      · cases h2 : b.testBit k
        · have HX := Lib.hid (HN.out (by rw [h2, Bool.and_false]))
          rw [h1] at ht1
          rw [h2] at ht2
          clear h1 h2
          go_wp2_with fail
          exact ⟨⟨k + 1, by omega, by go_num, by rw [HX.out]⟩, by simp [intOf]; omega⟩
        · have HX := Lib.hid (HY.out (by rw [h1, h2]; rfl))
          rw [h1] at ht1
          rw [h2] at ht2
          clear h1 h2
          have hw : IntKind.i64.wrap ((T : Int) + p2 k) = (T : Int) + p2 k := by rw [IntKind.wrap_i64]; omega
          go_wp2_with fail
          exact ⟨⟨k + 1, by omega, by go_num, by rw [HX.out, HP.out]; simp⟩, by simp [intOf]; omega⟩
    · obtain rfl : k = 40 := by omega
      have HX := Lib.hid (setOf_and (b := b) ha (show 32 ≤ 40 by omega))
      go_wp2_with fail
      go_ret
      exact ⟨ret_int (by rw [HX.out]), rfl⟩

theorem c_statesOk (S : Int) (w : World) : Calls Tryd.prog 55 #[.int .i64 S] w (Ret (.bool (Sp.setOk S)) w) := by
  by_cases h : 0 ≤ S
  · go_enter Tryd.func55, Tryd.ntmps55
    go_wp2_with fail
    go_ret
    exact ⟨ret_bool (by unfold Sp.setOk; simp [h]; omega), rfl⟩
  · go_enter Tryd.func55, Tryd.ntmps55
    go_wp2_with fail
    go_ret
    exact ⟨ret_bool (by unfold Sp.setOk; simp; omega), rfl⟩






























































































end Go.Proofs.YtjmpfemlihjibaaDoor
