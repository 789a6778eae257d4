/- Walks: draws of a task and a set of states. No condition. -/
import Derived.Test.YtjmpfemlihjibaaDoorA2
namespace Go.Proofs.YtjmpfemlihjibaaDoor
open Go.RowKit

def StatesQ (v : Value) (_w : World) : Prop := ∃ x, v = .int .i64 x ∧ -8589934592 ≤ x ∧ x ≤ 8589934592
theorem But.keep1 {R : Nat} {w w1 w2 : World} (h : But R (R + 1) w w1) (k : But R (R + 1) w1 w2) : But R (R + 1) w w2 := h.trans k
theorem quo59 {x : Int} (h0 : 0 ≤ x) (h1 : x < 60) : Int.tdiv x 59 = 0 ∨ Int.tdiv x 59 = 1 := by
  rw [Int.tdiv_eq_ediv_of_nonneg h0]
  omega

set_option maxHeartbeats 1000000 in
set_option maxRecDepth 100000 in
theorem c_l20States (R : Nat) (p : Int) (w : World) (h : Rd R w p) (hp : p ≤ 900000000) : Calls Tryd.prog 73 #[.pointer (some ⟨R, 0, none⟩)] w (RetD R p 20 w StatesQ) := by
  have hs32 : ∀ T, binOp .shl T (.int .i64 1) (.int .u64 32) = pure (.int .i64 4294967296) := fun T => by rfl
  have hs32z : ∀ T, binOp .shl T (.int .i64 0) (.int .u64 32) = pure (.int .i64 0) := fun T => by rfl
  have hs33 : ∀ T, binOp .shl T (.int .i64 1) (.int .u64 33) = pure (.int .i64 8589934592) := fun T => by rfl
  have hs33z : ∀ T, binOp .shl T (.int .i64 0) (.int .u64 33) = pure (.int .i64 0) := fun T => by rfl
  have HS := Lib.hid (And.intro hs32 (And.intro hs32z (And.intro hs33 hs33z)))
  clear hs32 hs32z hs33 hs33z
  go_enter Tryd.func73, Tryd.ntmps73
  go_wp2_with fail
  refine (c_pick R 8 p _ h (by omega) (by omega)).mono ?_; rintro e w2 ⟨v, p2, rfl, hR2, hp1, hp2, hb2, x, rfl, hx0, hx1⟩
  replace hx1 := hx1 (by omega)
  go_wp2_with fail
  go_loopw [4, 3] (fun i o wr => ∃ (k : Nat) (T : Nat) (p' : Int), k ≤ 7 ∧ i = .int .i64 k ∧ o = .int .i64 T ∧ T < 4294967296 ∧ Rd R wr p' ∧ p ≤ p' ∧ p' ≤ p + 1 + (7 - k) ∧ But R (R + 1) w wr) (fun i _ _ => (intOf i).toNat)
  case atStart =>
    obtain ⟨k, rfl⟩ := Int.eq_ofNat_of_zero_le hx0
    exact ⟨k, 0, p2, by omega, rfl, rfl, by omega, hR2, hp1, by omega, hb2⟩
  case round =>
    obtain ⟨k, T, p3, hk, rfl, rfl, hT, hR, hp3, hp4, hb⟩ := hrel
    by_cases hpos : 0 < k
    · have hk1 : (0 : Int) < (k : Int) := by omega
      go_wp2_with fail
      refine (c_pick R 32 p3 _ hR (by omega) (by omega)).mono ?_; rintro e w4 ⟨v, p4, rfl, hR4, hp5, hp6, hb4, y, rfl, hy0, hy1⟩
      replace hy1 := hy1 (by omega)
      obtain ⟨y, rfl⟩ := Int.eq_ofNat_of_zero_le hy0
      have hsh := bin_shl_one y (by omega)
      have hTT : T ||| 2 ^ y < 4294967296 := Nat.or_lt_two_pow (n := 32) hT (Nat.pow_lt_pow_right (by decide) (by omega))
      go_wp2_with (first | (go_at_call 72; refine (c_eitherP T y _ hT (by omega)).mono ?_; rintro e w5 ⟨rfl, rfl⟩))
      exact ⟨⟨k - 1, T ||| 2 ^ y, p4, by omega, by go_num, rfl, hTT, hR4, by omega, by omega, hb.trans hb4⟩, by simp [intOf]; omega⟩
    · go_wp2_with fail
      refine (c_pick R 60 p3 _ hR (by omega) (by omega)).mono ?_; rintro e w4 ⟨v, p4, rfl, hR4, hp5, hp6, hb4, y, rfl, hy0, hy1⟩
      replace hy1 := hy1 (by omega)
      replace hb := hb.trans hb4
      clear hR hb4
      obtain ⟨q1, hq1⟩ : ∃ q1, Int.tdiv y 59 = q1 := ⟨_, rfl⟩
      have hq1' := quo59 hy0 hy1
      rw [hq1] at hq1'
      obtain ⟨s1, s2, s3, s4⟩ := HS.out
      rcases hq1' with rfl | rfl
      all_goals
        go_wp2_with fail
        refine (c_pick R 60 p4 _ hR4 (by omega) (by omega)).mono ?_; rintro e w5 ⟨v, p5, rfl, hR5, hp7, hp8, hb5, z, rfl, hz0, hz1⟩
        replace hz1 := hz1 (by omega)
        replace hb := hb.trans hb5
        clear hb5
        obtain ⟨q2, hq2⟩ : ∃ q2, Int.tdiv z 59 = q2 := ⟨_, rfl⟩
        have hq2' := quo59 hz0 hz1
        rw [hq2] at hq2'
        rcases hq2' with rfl | rfl
        all_goals
          go_wp2_with fail
          go_ret
          refine ⟨_, p5, rfl, hR5, by omega, by omega, hb, _, rfl, ?_, ?_⟩
          all_goals (first | omega | (unfold wrap64; omega))

/-- a task and a set of states that a draw made -/
def DrawnQ (v : Value) (w : World) : Prop := ∃ tv t x, v = .tuple #[tv, .int .i64 x] ∧ TaskV w tv t ∧ -8589934592 ≤ x ∧ x ≤ 8589934592
theorem BytesV.keep {w w' : World} {A : Option Addr} {n : Nat} (h : BytesV w A n) (hk : Kept w w') : BytesV w' A n :=
  ⟨h.1, fun hn => by obtain ⟨b, o, e, hb, hc⟩ := h.2 hn; exact ⟨b, o, e, Nat.lt_of_lt_of_le hb hk.size, fun k hk2 => by obtain ⟨x, h1, h2⟩ := hc k hk2; exact ⟨x, by rw [hk.cell hb]; exact h1, h2⟩⟩⟩























































































end Go.Proofs.YtjmpfemlihjibaaDoor
