/- Walks: the law's own set of both; the program's StatesNext, StatesBack; draws of sets of states. No condition. -/
import Derived.Test.YthkcdjnnacdeoaaA1
import Derived.Test.YthkcdjnnacdeoaaG7
import Derived.Test.YthkcdjnnacdeoaaD4
namespace Go.Proofs.Ythkcdjnnacdeoaa
open Go.RowKit

theorem and_lt32 {a b : Nat} (ha : a < 4294967296) : a &&& b < 4294967296 := Nat.lt_of_le_of_lt Nat.and_le_left ha
theorem setOf_and {a b n : Nat} (ha : a < 4294967296) (hn : 32 ≤ n) : Sp.setOf n (fun i => a.testBit i && b.testBit i) = a &&& b := by
  refine Nat.eq_of_testBit_eq fun i => ?_
  rw [Sp.testBit_setOf, Nat.testBit_and]
  by_cases h : i < n
  · simp [h]
  · rw [Sp.bit_ge ha (by omega)]; simp
theorem setOf_lt2 (n : Nat) (f : Nat → Bool) : Sp.setOf n f < 2 ^ n := Sp.setOf_lt n f

set_option maxHeartbeats 1000000 in
theorem c_lboth (a b : Nat) (w : World) (ha : a < 4294967296) (hb : b < 4294967296) : Calls Try.prog 22 #[.int .i64 (a : Int), .int .i64 (b : Int)] w (Ret (.int .i64 ((a &&& b : Nat) : Int)) w) := by
  have ha0 : (0 : Int) ≤ (a : Int) := by omega
  have hb0 : (0 : Int) ≤ (b : Int) := by omega
  go_enter Try.func22, Try.ntmps22
  go_wp2_with fail
  go_loop [6, 5] (fun i o => ∃ k : Nat, k ≤ 40 ∧ i = .int .i64 k ∧ o = .int .i64 (Sp.setOf k (fun i => a.testBit i && b.testBit i) : Nat)) (fun i _ => 40 - (intOf i).toNat)
  case atStart => exact ⟨0, by omega, rfl, rfl⟩
  case round =>
    obtain ⟨k, hk, rfl, rfl⟩ := hrel
    by_cases hlt : k < 40
    · have hbd : Sp.setOf k (fun i => a.testBit i && b.testBit i) < 1099511627776 := Nat.lt_of_lt_of_le (setOf_lt2 _ _) (Nat.pow_le_pow_right (by decide) (show k ≤ 40 by omega))
      have hsh := bin_shl_one k (by omega)
      have HP := Lib.hid (p2_nat k)
      have hp2 := p2_62 k (by omega)
      have HY := Lib.hid (setOf_step_yes k (fun i => a.testBit i && b.testBit i))
      have HN := Lib.hid (setOf_step_no k (fun i => a.testBit i && b.testBit i))
      have ht1 := tmod_bit a k
      have ht2 := tmod_bit b k
      have hpk : p2 k ≤ 1099511627776 := by
        rw [p2_nat]
        have : 2 ^ k ≤ 2 ^ 40 := Nat.pow_le_pow_right (by decide) (by omega)
        omega
      generalize Sp.setOf k (fun i => a.testBit i && b.testBit i) = T at *
      cases h1 : a.testBit k
      · have HX := Lib.hid (HN.out (by rw [h1]; rfl))
        rw [h1] at ht1
        clear h1
        go_wp2_with fail
        exact ⟨⟨k + 1, by omega, by go_num, by rw [HX.out]⟩, by simp [intOf]; omega⟩
      · cases h2 : b.testBit k
        · have HX := Lib.hid (HN.out (by rw [h2, Bool.and_false]))
          rw [h1] at ht1
          rw [h2] at ht2
          clear h1 h2
          go_wp2_with fail
          exact ⟨⟨k + 1, by omega, by go_num, by rw [HX.out]⟩, by simp [intOf]; omega⟩
        · have HX := Lib.hid (HY.out (by rw [h1, h2]; rfl))
          rw [h1] at ht1
          rw [h2] at ht2
          clear h1 h2
          have hw : IntKind.i64.wrap ((T : Int) + p2 k) = (T : Int) + p2 k := by rw [IntKind.wrap_i64]; omega
          go_wp2_with fail
          exact ⟨⟨k + 1, by omega, by go_num, by rw [HX.out, HP.out]; simp⟩, by simp [intOf]; omega⟩
    · obtain rfl : k = 40 := by omega
      have HX := Lib.hid (setOf_and (b := b) ha (show 32 ≤ 40 by omega))
      go_wp2_with fail
      go_ret
      exact ⟨ret_int (by rw [HX.out]), rfl⟩

theorem c_statesOk (S : Int) (w : World) : Calls Try.prog 82 #[.int .i64 S] w (Ret (.bool (Sp.setOk S)) w) := by
  by_cases h : 0 ≤ S
  · go_enter Try.func82, Try.ntmps82
    go_wp2_with fail
    go_ret
    exact ⟨ret_bool (by unfold Sp.setOk; simp [h]; omega), rfl⟩
  · go_enter Try.func82, Try.ntmps82
    go_wp2_with fail
    go_ret
    exact ⟨ret_bool (by unfold Sp.setOk; simp; omega), rfl⟩

theorem c_iStatesNext (v : Value) (t : Sp.Task) (S : Int) (w : World) (h : TaskV w v t) :
    Calls Try.prog 27 #[v, .int .i64 S] w (RetK (.int .i64 (Sp.statesNext t S)) w) := by
  obtain ⟨A, n, c, A', n', c', rfl⟩ := h.form
  have hk0 := (Kept.refl w).alloc (.cells #[.int .i64 t.start, .slice A n c, .slice A' n' c'] 26)
  have B0 := Blk.new w 26 #[.int .i64 t.start, .slice A n c, .slice A' n' c']
  have hT := h.keep hk0
  go_enter Try.func27, Try.ntmps27
  go_wp2_with fail
  refine (c_iTaskValid _ t _ hT).mono ?_; rintro e w2 ⟨rfl, hk2⟩
  replace hk0 := hk0.trans hk2
  replace B0 := B0.kept hk2
  replace hT := hT.keep hk2
  clear hk2
  have c0 := B0.cell
  cases ht : Sp.taskOk t
  · have HE : Hid (Sp.statesNext t S = -1) := by show _ = _; unfold Sp.statesNext; rw [ht]; simp
    clear ht
    go_wp2_with fail
    go_ret
    exact ⟨ret_int HE.out.symm, hk0⟩
  have HK := Lib.hid ht
  cases hq : Sp.setOk S
  · have HE : Hid (Sp.statesNext t S = -1) := by show _ = _; unfold Sp.statesNext; rw [hq]; simp
    have HQ := Lib.hid hq
    clear ht hq
    go_wp2_with (first | (go_at_call 82; refine (c_statesOk S _).mono ?_; rintro e w3 ⟨rfl, rfl⟩; rw [HQ.out]))
    go_ret
    exact ⟨ret_int HE.out.symm, hk0⟩
  have HQ := Lib.hid hq
  have hq' : 0 ≤ S ∧ S ≤ 4294967295 := by unfold Sp.setOk at hq; simpa using hq
  obtain ⟨S, rfl⟩ := Int.eq_ofNat_of_zero_le hq'.1
  have HE : Hid (Sp.statesNext t (S : Int) = (Sp.img (Sp.rel t) S : Nat)) := by show _ = _; unfold Sp.statesNext; rw [if_pos ⟨ht, hq⟩, Int.toNat_natCast]
  have hn6 := Sp.taskOk_len ht
  clear ht hq
  go_wp2_with (first | (go_at_call 82; refine (c_statesOk (S : Int) _).mono ?_; rintro e w3 ⟨rfl, rfl⟩; rw [HQ.out]))
  refine (c_behindAll _ t _ hT HK.out).mono ?_; rintro e w3 ⟨v, rfl, ⟨g, rfl, hg, hR⟩, hk3⟩
  have hRow := RowsF.of hR (fun k hk => Sp.taskOk_deed HK.out hk)
  replace hk0 := hk0.trans hk3
  clear hk3 hR c0
  go_wp2_with fail
  refine (c_nextStates _ _ _ _ S _ hRow (by omega) hn6).mono ?_; rintro e w4 ⟨rfl, hk4⟩
  go_wp2_with fail
  go_ret
  exact ⟨ret_int HE.out.symm, hk0.trans hk4⟩

theorem c_iStatesBack (v : Value) (t : Sp.Task) (S : Int) (w : World) (h : TaskV w v t) :
    Calls Try.prog 20 #[v, .int .i64 S] w (RetK (.int .i64 (Sp.statesBack t S)) w) := by
  obtain ⟨A, n, c, A', n', c', rfl⟩ := h.form
  have hk0 := (Kept.refl w).alloc (.cells #[.int .i64 t.start, .slice A n c, .slice A' n' c'] 26)
  have B0 := Blk.new w 26 #[.int .i64 t.start, .slice A n c, .slice A' n' c']
  have hT := h.keep hk0
  go_enter Try.func20, Try.ntmps20
  go_wp2_with fail
  refine (c_iTaskValid _ t _ hT).mono ?_; rintro e w2 ⟨rfl, hk2⟩
  replace hk0 := hk0.trans hk2
  replace B0 := B0.kept hk2
  replace hT := hT.keep hk2
  clear hk2
  have c0 := B0.cell
  cases ht : Sp.taskOk t
  · have HE : Hid (Sp.statesBack t S = -1) := by show _ = _; unfold Sp.statesBack; rw [ht]; simp
    clear ht
    go_wp2_with fail
    go_ret
    exact ⟨ret_int HE.out.symm, hk0⟩
  have HK := Lib.hid ht
  cases hq : Sp.setOk S
  · have HE : Hid (Sp.statesBack t S = -1) := by show _ = _; unfold Sp.statesBack; rw [hq]; simp
    have HQ := Lib.hid hq
    clear ht hq
    go_wp2_with (first | (go_at_call 82; refine (c_statesOk S _).mono ?_; rintro e w3 ⟨rfl, rfl⟩; rw [HQ.out]))
    go_ret
    exact ⟨ret_int HE.out.symm, hk0⟩
  have HQ := Lib.hid hq
  have hq' : 0 ≤ S ∧ S ≤ 4294967295 := by unfold Sp.setOk at hq; simpa using hq
  obtain ⟨S, rfl⟩ := Int.eq_ofNat_of_zero_le hq'.1
  have HE : Hid (Sp.statesBack t (S : Int) = (Sp.img (Sp.relB t) S : Nat)) := by show _ = _; unfold Sp.statesBack; rw [if_pos ⟨ht, hq⟩, Int.toNat_natCast]
  have hn6 := Sp.taskOk_len ht
  clear ht hq
  go_wp2_with (first | (go_at_call 82; refine (c_statesOk (S : Int) _).mono ?_; rintro e w3 ⟨rfl, rfl⟩; rw [HQ.out]))
  refine (c_behindAll _ t _ hT HK.out).mono ?_; rintro e w3 ⟨v, rfl, ⟨g, rfl, hg, hR⟩, hk3⟩
  have hRow := RowsF.of hR (fun k hk => Sp.taskOk_deed HK.out hk)
  replace hk0 := hk0.trans hk3
  clear hk3 hR c0
  go_wp2_with fail
  have hstep := c_backStates _ _ t.deeds.length _ S _ hRow (by omega) hn6
  have HR : Hid (Sp.img (Sp.rev (Sp.edge t.deeds.length (Sp.flat t.deeds))) S = Sp.img (Sp.relB t) S) := rfl
  rw [HR.out] at hstep
  refine hstep.mono ?_; rintro e w4 ⟨rfl, hk4⟩
  go_wp2_with fail
  go_ret
  exact ⟨ret_int HE.out.symm, hk0.trans hk4⟩

end Go.Proofs.Ythkcdjnnacdeoaa
