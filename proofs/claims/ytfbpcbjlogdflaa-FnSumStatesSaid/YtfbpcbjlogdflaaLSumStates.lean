/- The law FnSumStates, walked. No condition. -/
import Derived.Test.YtfbpcbjlogdflaaD10
import Derived.Test.YtfbpcbjlogdflaaS2
import Derived.Test.YtfbpcbjlogdflaaS1
import Derived.Test.YtfbpcbjlogdflaaA1
import Derived.Test.YtfbpcbjlogdflaaRowB
namespace Go.Proofs.Ytfbpcbjlogdflaa
open Go.RowKit

theorem sumStates_cases (t : Sp.Task) (f : Int) : Sp.sumStates t f = -1 ∨ (Sp.taskOk t = true ∧ ∃ k : Nat, f = k ∧ k < 32 ∧ Sp.sumStates t f = (Sp.sumSet t.start.toNat k : Nat)) := by
  unfold Sp.sumStates
  by_cases h : Sp.taskOk t = true ∧ Sp.stOk f = true
  · right
    have h2 := h.2
    unfold Sp.stOk at h2
    simp only [decide_eq_true_eq] at h2
    obtain ⟨k, rfl⟩ := Int.eq_ofNat_of_zero_le h2.1
    exact ⟨h.1, k, rfl, by omega, by rw [if_pos h, Int.toNat_natCast]⟩
  · left; rw [if_neg h]

set_option maxHeartbeats 1000000 in
set_option maxRecDepth 100000 in
theorem l_SumStatesFn (A : Option Addr) (n c : Nat) (w : World) (h : BytesV w A n ∧ n ≤ c ∧ c ≤ maxLen) : Calls Try.prog 16 #[.slice A n c] w (RetK (.bool true) w) := by
  by_cases hn : 1048576 < n
  · have hn1 : (1048576 : Int) < (n : Int) := by omega
    go_enter Try.func16, Try.ntmps16
    go_wp2_with fail
    go_ret
    exact ⟨rfl, Kept.refl _⟩
  have hn1 : ¬ (1048576 : Int) < (n : Int) := by omega
  go_enter Try.func16, Try.ntmps16
  go_wp2_with fail
  refine (c_drawSumStates A n c w h).mono ?_; rintro e w2 ⟨v, rfl, ⟨tv, f, rfl, hTQ, _, _⟩, hk2⟩
  obtain ⟨t, hTV, _⟩ := hTQ.task
  obtain ⟨A1, m1, c1, A2, m2, c2, rfl⟩ := hTV.form
  have hk0 := hk2.alloc (.cells #[.int .i64 t.start, .slice A1 m1 c1, .slice A2 m2 c2] 30)
  have hT := hTV.keep ((Kept.refl w2).alloc (.cells #[.int .i64 t.start, .slice A1 m1 c1, .slice A2 m2 c2] 30))
  have B0 := Blk.new w2 30 #[.int .i64 t.start, .slice A1 m1 c1, .slice A2 m2 c2]
  clear hk2 hTV hTQ
  go_wp2_with fail
  refine (c_iSumStates _ t f _ hT).mono ?_; rintro e w3 ⟨rfl, hk3⟩
  replace hk0 := hk0.trans hk3
  replace B0 := B0.kept hk3
  replace hT := hT.keep hk3
  clear hk3
  have c0 := B0.cell
  go_wp2_with fail
  refine (c_sSumStates _ t f _ hT).mono ?_; rintro e w4 ⟨rfl, hk4⟩
  replace hk0 := hk0.trans hk4
  replace B0 := B0.kept hk4
  clear hk4 c0
  have HCs := Lib.hid (sumStates_cases t f)
  rcases HCs.out with hneg | ⟨hok, k, rfl, hk, hx⟩
  · rw [hneg]
    clear hneg
    go_wp2_with fail
    refine (c_alive _).mono ?_; rintro e w5 ⟨rfl, hk5⟩
    go_wp2_with fail
    go_ret
    exact ⟨rfl, hk0.trans hk5⟩
  · rw [hx]
    obtain ⟨hs0, hs1⟩ := Sp.taskOk_start hok
    obtain ⟨st, hst⟩ := Int.eq_ofNat_of_zero_le hs0
    have hst3 : st < 32 := by omega
    have hsl : Sp.sumSet t.start.toNat k < 4294967296 := setOf_bd 32 _ (Nat.le_refl _)
    have HCt := Lib.hid (sumSet_count t.start.toNat k hk)
    have hbt := sumSet_start t.start.toNat k (by omega)
    rw [hst, Int.toNat_natCast] at hbt hsl HCt ⊢
    have ht : (((Sp.sumSet st k : Nat) : Int) / 2 ^ st).tmod 2 = 1 := by rw [tmod_bit, hbt]; rfl
    rw [hst] at B0
    have c0 := B0.cell
    generalize Sp.sumSet st k = S at *
    clear hok hx HCs hst hbt hs0 hT
    by_cases h0 : k = 0
    · have HB : Hid (((Sp.cu 40 (fun i => S.testBit i) : Nat) : Int) = 32) := by show _ = _; rw [HCt.out, if_pos h0]; rfl
      subst h0
      go_wp2_with (first | (go_at_call 62; refine (c_lbits S _ hsl).mono ?_; rintro e w5 ⟨rfl, rfl⟩; rw [HB.out]))
      go_ret
      exact ⟨rfl, hk0⟩
    · have HB : Hid (((Sp.cu 40 (fun i => S.testBit i) : Nat) : Int) = 16) := by show _ = _; rw [HCt.out, if_neg h0]; rfl
      have hk1 : ((k : Int) == 0) = false := beq_eq_false_iff_ne.2 (by omega)
      have hk2 : ¬ (k : Int) = 0 := by omega
      have hk3 : ((k : Int) != 0) = true := by simp; omega
      go_wp2_with (first | (go_at_call 62; refine (c_lbits S _ hsl).mono ?_; rintro e w5 ⟨rfl, rfl⟩; rw [HB.out]))
      go_ret
      exact ⟨rfl, hk0⟩

end Go.Proofs.Ytfbpcbjlogdflaa
