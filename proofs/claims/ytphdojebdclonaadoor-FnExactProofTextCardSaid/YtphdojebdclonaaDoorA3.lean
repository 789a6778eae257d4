/- Walks: the law's own set of both; the program's StatesNext, StatesBack; draws of sets of states. Walks: draws of a task and a set of states. No condition. -/
import Derived.Test.YtphdojebdclonaaDoorA1
import Derived.Test.YtphdojebdclonaaDoorG8
import Derived.Test.YtphdojebdclonaaDoorD4
namespace Go.Proofs.YtphdojebdclonaaDoor
set_option linter.unusedSimpArgs false
set_option linter.unusedVariables false
open Go.RowKit

theorem and_lt32 {a b : Nat} (ha : a < 4294967296) : a &&& b < 4294967296 := Nat.lt_of_le_of_lt Nat.and_le_left ha
theorem setOf_and {a b n : Nat} (ha : a < 4294967296) (hn : 32 ≤ n) : Sp.setOf n (fun i => a.testBit i && b.testBit i) = a &&& b := by
  refine Nat.eq_of_testBit_eq fun i => ?_
  rw [Sp.testBit_setOf, Nat.testBit_and]
  by_cases h : i < n
  · simp [h]
  · rw [Sp.bit_ge ha (by omega)]; simp
theorem setOf_lt2 (n : Nat) (f : Nat → Bool) : Sp.setOf n f < 2 ^ n := Sp.setOf_lt n f



















































theorem c_statesOk (S : Int) (w : World) : Calls Tryd.prog 121 #[.int .i64 S] w (Ret (.bool (Sp.setOk S)) w) := by
  by_cases h : 0 ≤ S
  · go_enter Tryd.func121, Tryd.ntmps121
    go_wp2_with fail
    go_ret
    exact ⟨ret_bool (by unfold Sp.setOk; simp [h]; omega), rfl⟩
  · go_enter Tryd.func121, Tryd.ntmps121
    go_wp2_with fail
    go_ret
    exact ⟨ret_bool (by unfold Sp.setOk; simp; omega), rfl⟩






























































































end Go.Proofs.YtphdojebdclonaaDoor

namespace Go.Proofs.YtphdojebdclonaaDoor
set_option linter.unusedSimpArgs false
set_option linter.unusedVariables false
open Go.RowKit

def StatesQ (v : Value) (_w : World) : Prop := ∃ x, v = .int .i64 x ∧ -8589934592 ≤ x ∧ x ≤ 8589934592
theorem But.keep1 {R : Nat} {w w1 w2 : World} (h : But R (R + 1) w w1) (k : But R (R + 1) w1 w2) : But R (R + 1) w w2 := h.trans k
theorem quo59 {x : Int} (h0 : 0 ≤ x) (h1 : x < 60) : Int.tdiv x 59 = 0 ∨ Int.tdiv x 59 = 1 := by
  rw [Int.tdiv_eq_ediv_of_nonneg h0]
  omega

























































/-- a task and a set of states that a draw made -/
def DrawnQ (v : Value) (w : World) : Prop := ∃ tv t x, v = .tuple #[tv, .int .i64 x] ∧ TaskV w tv t ∧ -8589934592 ≤ x ∧ x ≤ 8589934592
theorem BytesV.keep {w w' : World} {A : Option Addr} {n : Nat} (h : BytesV w A n) (hk : Kept w w') : BytesV w' A n :=
  ⟨h.1, fun hn => by obtain ⟨b, o, e, hb, hc⟩ := h.2 hn; exact ⟨b, o, e, Nat.lt_of_lt_of_le hb hk.size, fun k hk2 => by obtain ⟨x, h1, h2⟩ := hc k hk2; exact ⟨x, by rw [hk.cell hb]; exact h1, h2⟩⟩⟩























































































end Go.Proofs.YtphdojebdclonaaDoor
