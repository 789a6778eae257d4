/- Walks: draws of a task and a set of states. No condition. -/
import Derived.Test.YtfbpcbjlogdflaaA2
namespace Go.Proofs.Ytfbpcbjlogdflaa
open Go.RowKit

def StatesQ (v : Value) (_w : World) : Prop := ∃ x, v = .int .i64 x ∧ -8589934592 ≤ x ∧ x ≤ 8589934592
theorem But.keep1 {R : Nat} {w w1 w2 : World} (h : But R (R + 1) w w1) (k : But R (R + 1) w1 w2) : But R (R + 1) w w2 := h.trans k
theorem quo59 {x : Int} (h0 : 0 ≤ x) (h1 : x < 60) : Int.tdiv x 59 = 0 ∨ Int.tdiv x 59 = 1 := by
  rw [Int.tdiv_eq_ediv_of_nonneg h0]
  omega

set_option maxHeartbeats 1000000 in
set_option maxRecDepth 100000 in
theorem c_l20States (R : Nat) (p : Int) (w : World) (h : Rd R w p) (hp : p ≤ 900000000) : Calls Try.prog 89 #[.pointer (some ⟨R, 0, none⟩)] w (RetD R p 20 w StatesQ) := by
  have hs32 : ∀ T, binOp .shl T (.int .i64 1) (.int .u64 32) = pure (.int .i64 4294967296) := fun T => by rfl
  have hs32z : ∀ T, binOp .shl T (.int .i64 0) (.int .u64 32) = pure (.int .i64 0) := fun T => by rfl
  have hs33 : ∀ T, binOp .shl T (.int .i64 1) (.int .u64 33) = pure (.int .i64 8589934592) := fun T => by rfl
  have hs33z : ∀ T, binOp .shl T (.int .i64 0) (.int .u64 33) = pure (.int .i64 0) := fun T => by rfl
  have HS := Lib.hid (And.intro hs32 (And.intro hs32z (And.intro hs33 hs33z)))
  clear hs32 hs32z hs33 hs33z
  go_enter Try.func89, Try.ntmps89
  go_wp2_with fail
  refine (c_pick R 8 p _ h (by omega) (by omega)).mono ?_; rintro e w2 ⟨v, p2, rfl, hR2, hp1, hp2, hb2, x, rfl, hx0, hx1⟩
  replace hx1 := hx1 (by omega)
  go_wp2_with fail
  go_loopw [4, 3] (fun i o wr => ∃ (k : Nat) (T : Nat) (p' : Int), k ≤ 7 ∧ i = .int .i64 k ∧ o = .int .i64 T ∧ T < 4294967296 ∧ Rd R wr p' ∧ p ≤ p' ∧ p' ≤ p + 1 + (7 - k) ∧ But R (R + 1) w wr) (fun i _ _ => (intOf i).toNat)
  case atStart =>
    obtain ⟨k, rfl⟩ := Int.eq_ofNat_of_zero_le hx0
    exact ⟨k, 0, p2, by omega, rfl, rfl, by omega, hR2, hp1, by omega, hb2⟩
  case round =>
    obtain ⟨k, T, p3, hk, rfl, rfl, hT, hR, hp3, hp4, hb⟩ := hrel
    by_cases hpos : 0 < k
    · have hk1 : (0 : Int) < (k : Int) := by omega
      go_wp2_with fail
      refine (c_pick R 32 p3 _ hR (by omega) (by omega)).mono ?_; rintro e w4 ⟨v, p4, rfl, hR4, hp5, hp6, hb4, y, rfl, hy0, hy1⟩
      replace hy1 := hy1 (by omega)
      obtain ⟨y, rfl⟩ := Int.eq_ofNat_of_zero_le hy0
      have hsh := bin_shl_one y (by omega)
      have hTT : T ||| 2 ^ y < 4294967296 := Nat.or_lt_two_pow (n := 32) hT (Nat.pow_lt_pow_right (by decide) (by omega))
      go_wp2_with (first | (go_at_call 92; refine (c_eitherP T y _ hT (by omega)).mono ?_; rintro e w5 ⟨rfl, rfl⟩))
      exact ⟨⟨k - 1, T ||| 2 ^ y, p4, by omega, by go_num, rfl, hTT, hR4, by omega, by omega, hb.trans hb4⟩, by simp [intOf]; omega⟩
    · go_wp2_with fail
      refine (c_pick R 60 p3 _ hR (by omega) (by omega)).mono ?_; rintro e w4 ⟨v, p4, rfl, hR4, hp5, hp6, hb4, y, rfl, hy0, hy1⟩
      replace hy1 := hy1 (by omega)
      replace hb := hb.trans hb4
      clear hR hb4
      obtain ⟨q1, hq1⟩ : ∃ q1, Int.tdiv y 59 = q1 := ⟨_, rfl⟩
      have hq1' := quo59 hy0 hy1
      rw [hq1] at hq1'
      obtain ⟨s1, s2, s3, s4⟩ := HS.out
      rcases hq1' with rfl | rfl
      all_goals
        go_wp2_with fail
        refine (c_pick R 60 p4 _ hR4 (by omega) (by omega)).mono ?_; rintro e w5 ⟨v, p5, rfl, hR5, hp7, hp8, hb5, z, rfl, hz0, hz1⟩
        replace hz1 := hz1 (by omega)
        replace hb := hb.trans hb5
        clear hb5
        obtain ⟨q2, hq2⟩ : ∃ q2, Int.tdiv z 59 = q2 := ⟨_, rfl⟩
        have hq2' := quo59 hz0 hz1
        rw [hq2] at hq2'
        rcases hq2' with rfl | rfl
        all_goals
          go_wp2_with fail
          go_ret
          refine ⟨_, p5, rfl, hR5, by omega, by omega, hb, _, rfl, ?_, ?_⟩
          all_goals (first | omega | (unfold wrap64; omega))

/-- a task and a set of states that a draw made -/
def DrawnQ (v : Value) (w : World) : Prop := ∃ tv t x, v = .tuple #[tv, .int .i64 x] ∧ TaskV w tv t ∧ -8589934592 ≤ x ∧ x ≤ 8589934592
theorem BytesV.keep {w w' : World} {A : Option Addr} {n : Nat} (h : BytesV w A n) (hk : Kept w w') : BytesV w' A n :=
  ⟨h.1, fun hn => by obtain ⟨b, o, e, hb, hc⟩ := h.2 hn; exact ⟨b, o, e, Nat.lt_of_lt_of_le hb hk.size, fun k hk2 => by obtain ⟨x, h1, h2⟩ := hc k hk2; exact ⟨x, by rw [hk.cell hb]; exact h1, h2⟩⟩⟩

set_option maxHeartbeats 1000000 in
set_option maxRecDepth 100000 in
theorem c_drawStatesNext (A : Option Addr) (n c : Nat) (w : World) (h : BytesV w A n ∧ n ≤ c ∧ c ≤ maxLen) : Calls Try.prog 44 #[.slice A n c] w (RetS DrawnQ w) := by
  have hk0 := (Kept.refl w).alloc (.cells #[.int .i64 0, .slice none 0 0, .slice none 0 0] 30)
  have B0 := Blk.new w 30 #[.int .i64 0, .slice none 0 0, .slice none 0 0]
  have hb0 := h.1.keep hk0
  go_enter Try.func44, Try.ntmps44
  go_wp2_with fail
  refine (c_l20Open A n c _ hb0 h.2.1 h.2.2).mono ?_; rintro e w2 ⟨v, rfl, ⟨R, rfl, hRge, hR⟩, hk2⟩
  simp only [World.size_alloc] at hRge
  replace hk0 := hk0.trans hk2
  replace B0 := B0.kept hk2
  clear hk2 hb0
  have hRlt := hR.lt
  go_wp2_with fail
  refine (c_l20Task R 12 0 _ hR (by omega) (by omega) (by omega)).mono ?_; rintro e w3 ⟨v, p3, rfl, hR3, hp1, hp2, hb3, st, A1, n1, c1, A2, n2, c2, rfl, hst, hG, hD, hn2⟩
  go_wp2_with fail
  refine (c_l20States R p3 _ hR3 (by omega)).mono ?_; rintro e w4 ⟨v, p4, rfl, hR4, hp3, hp4, hb4, x, rfl, hx0, hx1⟩
  have hB := hb3.trans hb4
  replace hk0 := hB.kept hk0 (by omega)
  replace B0 := hB.blk B0 (.inl (by omega))
  have kr := RowsKept.of_but (X := w2.heap.size) hb4 hRlt
  replace hG := hG.kept kr.ints
  replace hD := hD.kept kr
  clear hb3 hb4 hB hR hR3 hR4 kr
  have ce := B0.cell
  have fe := B0.frozen
  have b1 := B0.set_ 0 (.int .i64 st)
  have b2 := b1.set_ 1 (.slice A1 n1 c1)
  have k1 := RowsKept.set (X := w2.heap.size) B0 (by decide) (by decide) 0 (.int .i64 st)
  have k2 := RowsKept.set (X := w2.heap.size) b1 (by decide) (by decide) 1 (.slice A1 n1 c1)
  have k3 := RowsKept.set (X := w2.heap.size) b2 (by decide) (by decide) 2 (.slice A2 n2 c2)
  have kk := (k1.trans k2).trans k3
  have hG2 := hG.kept kk.ints
  have hD2 := hD.kept kk
  have hle := Nat.le_refl w.heap.size
  have hkF := ((hk0.setCell (p := ⟨w.heap.size, 0, none⟩) hle (.int .i64 st)).setCell (p := ⟨w.heap.size, 1, none⟩) hle (.slice A1 n1 c1)).setCell (p := ⟨w.heap.size, 2, none⟩) hle (.slice A2 n2 c2)
  clear B0 b1 b2 k1 k2 k3 kk hG hD hk0
  go_wp2_with fail
  refine bodyPost_ret (v := .tuple #[.agg #[.int .i64 st, .slice A1 n1 c1, .slice A2 n2 c2], .int .i64 x]) (by simp [results, Try.results44, go_sem, ce]) rfl ?_
  obtain ⟨t, hTV, _⟩ := TaskQ.task ⟨st, A1, n1, c1, A2, n2, c2, rfl, hst, hG2, hD2, hn2⟩
  exact ⟨_, rfl, ⟨_, t, x, rfl, hTV, hx0, hx1⟩, hkF⟩

set_option maxHeartbeats 1000000 in
set_option maxRecDepth 100000 in
theorem c_drawStatesBack (A : Option Addr) (n c : Nat) (w : World) (h : BytesV w A n ∧ n ≤ c ∧ c ≤ maxLen) : Calls Try.prog 48 #[.slice A n c] w (RetS DrawnQ w) := by
  have hk0 := (Kept.refl w).alloc (.cells #[.int .i64 0, .slice none 0 0, .slice none 0 0] 30)
  have B0 := Blk.new w 30 #[.int .i64 0, .slice none 0 0, .slice none 0 0]
  have hb0 := h.1.keep hk0
  go_enter Try.func48, Try.ntmps48
  go_wp2_with fail
  refine (c_l20Open A n c _ hb0 h.2.1 h.2.2).mono ?_; rintro e w2 ⟨v, rfl, ⟨R, rfl, hRge, hR⟩, hk2⟩
  simp only [World.size_alloc] at hRge
  replace hk0 := hk0.trans hk2
  replace B0 := B0.kept hk2
  clear hk2 hb0
  have hRlt := hR.lt
  go_wp2_with fail
  refine (c_l20Task R 12 0 _ hR (by omega) (by omega) (by omega)).mono ?_; rintro e w3 ⟨v, p3, rfl, hR3, hp1, hp2, hb3, st, A1, n1, c1, A2, n2, c2, rfl, hst, hG, hD, hn2⟩
  go_wp2_with fail
  refine (c_l20States R p3 _ hR3 (by omega)).mono ?_; rintro e w4 ⟨v, p4, rfl, hR4, hp3, hp4, hb4, x, rfl, hx0, hx1⟩
  have hB := hb3.trans hb4
  replace hk0 := hB.kept hk0 (by omega)
  replace B0 := hB.blk B0 (.inl (by omega))
  have kr := RowsKept.of_but (X := w2.heap.size) hb4 hRlt
  replace hG := hG.kept kr.ints
  replace hD := hD.kept kr
  clear hb3 hb4 hB hR hR3 hR4 kr
  have ce := B0.cell
  have fe := B0.frozen
  have b1 := B0.set_ 0 (.int .i64 st)
  have b2 := b1.set_ 1 (.slice A1 n1 c1)
  have k1 := RowsKept.set (X := w2.heap.size) B0 (by decide) (by decide) 0 (.int .i64 st)
  have k2 := RowsKept.set (X := w2.heap.size) b1 (by decide) (by decide) 1 (.slice A1 n1 c1)
  have k3 := RowsKept.set (X := w2.heap.size) b2 (by decide) (by decide) 2 (.slice A2 n2 c2)
  have kk := (k1.trans k2).trans k3
  have hG2 := hG.kept kk.ints
  have hD2 := hD.kept kk
  have hle := Nat.le_refl w.heap.size
  have hkF := ((hk0.setCell (p := ⟨w.heap.size, 0, none⟩) hle (.int .i64 st)).setCell (p := ⟨w.heap.size, 1, none⟩) hle (.slice A1 n1 c1)).setCell (p := ⟨w.heap.size, 2, none⟩) hle (.slice A2 n2 c2)
  clear B0 b1 b2 k1 k2 k3 kk hG hD hk0
  go_wp2_with fail
  refine bodyPost_ret (v := .tuple #[.agg #[.int .i64 st, .slice A1 n1 c1, .slice A2 n2 c2], .int .i64 x]) (by simp [results, Try.results48, go_sem, ce]) rfl ?_
  obtain ⟨t, hTV, _⟩ := TaskQ.task ⟨st, A1, n1, c1, A2, n2, c2, rfl, hst, hG2, hD2, hn2⟩
  exact ⟨_, rfl, ⟨_, t, x, rfl, hTV, hx0, hx1⟩, hkF⟩

end Go.Proofs.Ytfbpcbjlogdflaa
