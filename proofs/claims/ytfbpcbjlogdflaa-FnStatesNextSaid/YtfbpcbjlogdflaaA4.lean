/- The law FnStatesNext, walked. No condition. -/
import Derived.Test.YtfbpcbjlogdflaaA3
import Derived.Test.YtfbpcbjlogdflaaRowB
namespace Go.Proofs.Ytfbpcbjlogdflaa
open Go.RowKit

theorem img_or (r : Nat → Nat → Bool) (A B : Nat) : Sp.img r (A ||| B) = Sp.img r A ||| Sp.img r B := by
  refine Sp.set_ext (Sp.img_lt _ _) (Sp.or_lt (Sp.img_lt _ _) (Sp.img_lt _ _)) fun s hs => ?_
  rw [Nat.testBit_or, Bool.or_eq_true, Sp.img_bit, Sp.img_bit, Sp.img_bit]
  constructor
  · rintro ⟨_, s0, h0, h1, h2⟩
    rw [Nat.testBit_or, Bool.or_eq_true] at h1
    rcases h1 with h1 | h1
    · exact .inl ⟨hs, s0, h0, h1, h2⟩
    · exact .inr ⟨hs, s0, h0, h1, h2⟩
  · rintro (⟨_, s0, h0, h1, h2⟩ | ⟨_, s0, h0, h1, h2⟩)
    · exact ⟨hs, s0, h0, by rw [Nat.testBit_or, h1]; rfl, h2⟩
    · exact ⟨hs, s0, h0, by rw [Nat.testBit_or, h1]; simp, h2⟩
theorem and_add_or (a : Nat) : ∀ b, (a &&& b) + (a ||| b) = a + b := by
  induction a using Nat.strongRecOn with
  | _ a ih =>
    intro b
    by_cases h : a = 0
    · subst h; simp
    · have h1 := ih (a / 2) (by omega) (b / 2)
      have e1 : (a &&& b) / 2 = (a / 2) &&& (b / 2) := by
        refine Nat.eq_of_testBit_eq fun i => ?_
        simp [Nat.testBit_div_two]
      have e2 : (a ||| b) / 2 = (a / 2) ||| (b / 2) := by
        refine Nat.eq_of_testBit_eq fun i => ?_
        simp [Nat.testBit_div_two]
      have e3 : (a &&& b) % 2 + (a ||| b) % 2 = a % 2 + b % 2 := by
        have t1 := Nat.testBit_and a b 0
        have t2 := Nat.testBit_or a b 0
        simp only [Nat.testBit_zero] at t1 t2
        rcases Nat.mod_two_eq_zero_or_one a with ha | ha <;> rcases Nat.mod_two_eq_zero_or_one b with hb | hb <;> rcases Nat.mod_two_eq_zero_or_one (a &&& b) with hc | hc <;> rcases Nat.mod_two_eq_zero_or_one (a ||| b) with hd | hd <;> simp [ha, hb, hc, hd] at t1 t2 ⊢
      omega
theorem and_pos {a b : Nat} (ha : a < 2 ^ 32) : a &&& b ≠ 0 ↔ ∃ s, s < 32 ∧ a.testBit s = true ∧ b.testBit s = true := by
  constructor
  · intro h
    obtain ⟨s, hs, hb⟩ := Sp.nonzero_bit (Nat.lt_of_le_of_lt Nat.and_le_left ha) h
    rw [Nat.testBit_and, Bool.and_eq_true] at hb
    exact ⟨s, hs, hb.1, hb.2⟩
  · rintro ⟨s, _, h1, h2⟩ h
    have := Nat.testBit_and a b s
    rw [h, h1, h2] at this
    simp at this
theorem img_meet (r : Nat → Nat → Bool) {S O : Nat} (hS : S < 2 ^ 32) : (Sp.img r S &&& O ≠ 0) ↔ (S &&& Sp.img (Sp.rev r) O ≠ 0) := by
  rw [and_pos (Sp.img_lt _ _), and_pos hS]
  constructor
  · rintro ⟨s, hs, h1, h2⟩
    obtain ⟨_, s0, h0, h3, h4⟩ := (Sp.img_bit _ _ _).1 h1
    exact ⟨s0, h0, h3, (Sp.img_bit _ _ _).2 ⟨h0, s, hs, h2, h4⟩⟩
  · rintro ⟨s0, h0, h1, h2⟩
    obtain ⟨_, s, hs, h3, h4⟩ := (Sp.img_bit _ _ _).1 h2
    exact ⟨s, hs, (Sp.img_bit _ _ _).2 ⟨hs, s0, h0, h1, h4⟩, h3⟩
theorem meet_dec (r : Nat → Nat → Bool) {S O : Nat} (hS : S < 2 ^ 32) : decide ((0 : Int) < ((Sp.img r S &&& O : Nat) : Int)) = decide ((0 : Int) < ((S &&& Sp.img (Sp.rev r) O : Nat) : Int)) := by
  have := img_meet r (S := S) (O := O) hS
  rw [decide_eq_decide]
  omega

theorem statesNext_cases (t : Sp.Task) (S : Int) : Sp.statesNext t S = -1 ∨ (Sp.taskOk t = true ∧ ∃ s : Nat, S = s ∧ s < 4294967296 ∧ Sp.statesNext t S = (Sp.img (Sp.rel t) s : Nat)) := by
  unfold Sp.statesNext
  by_cases h : Sp.taskOk t = true ∧ Sp.setOk S = true
  · right
    have h2 := h.2
    unfold Sp.setOk at h2
    simp only [decide_eq_true_eq] at h2
    obtain ⟨s, rfl⟩ := Int.eq_ofNat_of_zero_le h2.1
    exact ⟨h.1, s, rfl, by omega, by rw [if_pos h, Int.toNat_natCast]⟩
  · left; rw [if_neg h]
theorem statesBack_cases (t : Sp.Task) (S : Int) : Sp.statesBack t S = -1 ∨ (Sp.taskOk t = true ∧ ∃ s : Nat, S = s ∧ s < 4294967296 ∧ Sp.statesBack t S = (Sp.img (Sp.relB t) s : Nat)) := by
  unfold Sp.statesBack
  by_cases h : Sp.taskOk t = true ∧ Sp.setOk S = true
  · right
    have h2 := h.2
    unfold Sp.setOk at h2
    simp only [decide_eq_true_eq] at h2
    obtain ⟨s, rfl⟩ := Int.eq_ofNat_of_zero_le h2.1
    exact ⟨h.1, s, rfl, by omega, by rw [if_pos h, Int.toNat_natCast]⟩
  · left; rw [if_neg h]
theorem statesNext_ok {t : Sp.Task} (h : Sp.taskOk t = true) {s : Nat} (hs : s < 4294967296) : Sp.statesNext t (s : Nat) = (Sp.img (Sp.rel t) s : Nat) := by
  unfold Sp.statesNext
  rw [if_pos ⟨h, by unfold Sp.setOk; simp; omega⟩, Int.toNat_natCast]

set_option maxHeartbeats 1000000 in
set_option maxRecDepth 100000 in
theorem l_StatesNext (A : Option Addr) (n c : Nat) (A' : Option Addr) (n' c' : Nat) (w : World) (h : BytesV w A n ∧ n ≤ c ∧ c ≤ maxLen) (h' : BytesV w A' n' ∧ n' ≤ c' ∧ c' ≤ maxLen) :
    Calls Try.prog 13 #[.slice A n c, .slice A' n' c'] w (RetK (.bool true) w) := by
  by_cases hn : 1048576 < n
  · have hn1 : (1048576 : Int) < (n : Int) := by omega
    go_enter Try.func13, Try.ntmps13
    go_wp2_with fail
    go_ret
    exact ⟨rfl, Kept.refl _⟩
  by_cases hn' : 1048576 < n'
  · have hn1 : ¬ (1048576 : Int) < (n : Int) := by omega
    have hn2 : (1048576 : Int) < (n' : Int) := by omega
    go_enter Try.func13, Try.ntmps13
    go_wp2_with fail
    go_ret
    exact ⟨rfl, Kept.refl _⟩
  have hn1 : ¬ (1048576 : Int) < (n : Int) := by omega
  have hn2 : ¬ (1048576 : Int) < (n' : Int) := by omega
  go_enter Try.func13, Try.ntmps13
  go_wp2_with fail
  refine (c_drawStatesNext A n c w h).mono ?_; rintro e w2 ⟨v, rfl, ⟨tv, t, S, rfl, hTV, hS0, hS1⟩, hk2⟩
  obtain ⟨A1, m1, c1, A2, m2, c2, rfl⟩ := hTV.form
  have hk0 := hk2.alloc (.cells #[.int .i64 t.start, .slice A1 m1 c1, .slice A2 m2 c2] 30)
  have hT := hTV.keep ((Kept.refl w2).alloc (.cells #[.int .i64 t.start, .slice A1 m1 c1, .slice A2 m2 c2] 30))
  have B0 := Blk.new w2 30 #[.int .i64 t.start, .slice A1 m1 c1, .slice A2 m2 c2]
  clear hk2 hTV
  go_wp2_with fail
  refine (c_iStatesNext _ t S _ hT).mono ?_; rintro e w3 ⟨rfl, hk3⟩
  replace hk0 := hk0.trans hk3
  replace B0 := B0.kept hk3
  replace hT := hT.keep hk3
  clear hk3
  have c0 := B0.cell
  go_wp2_with fail
  refine (c_sStatesNext _ t S _ hT).mono ?_; rintro e w4 ⟨rfl, hk4⟩
  replace hk0 := hk0.trans hk4
  replace B0 := B0.kept hk4
  replace hT := hT.keep hk4
  clear hk4 c0
  have HCs := Lib.hid (statesNext_cases t S)
  rcases HCs.out with hneg | ⟨hok, s, rfl, hs, hx⟩
  · rw [hneg]
    clear hneg
    go_wp2_with fail
    refine (c_alive _).mono ?_; rintro e w5 ⟨rfl, hk5⟩
    go_wp2_with fail
    go_ret
    exact ⟨rfl, hk0.trans hk5⟩
  · rw [hx]
    have HK := Lib.hid hok
    have HX := Lib.hid hx
    have hxl := Sp.img_lt (Sp.rel t) s
    clear hok hx HCs
    obtain ⟨X, HXX⟩ : ∃ X, Hid (Sp.img (Sp.rel t) s = X) := ⟨_, rfl⟩
    rw [HXX.out] at hxl ⊢
    go_wp2_with fail
    refine (c_drawStatesBack A' n' c' _ ⟨h'.1.keep hk0, h'.2⟩).mono ?_; rintro e w5 ⟨v, rfl, ⟨tv, t2, O, rfl, hTV, hO0, hO1⟩, hk5⟩
    obtain ⟨A3, m3, c3, A4, m4, c4, rfl⟩ := hTV.form
    have hk6 := hk5.alloc (.cells #[.int .i64 t2.start, .slice A3 m3 c3, .slice A4 m4 c4] 30)
    replace hk0 := hk0.trans hk6
    replace B0 := B0.kept hk6
    replace hT := hT.keep hk6
    clear hk5 hTV hk6
    have c0 := B0.cell
    go_wp2_with fail
    refine (c_iStatesBack _ t O _ hT).mono ?_; rintro e w6 ⟨rfl, hk6⟩
    replace hk0 := hk0.trans hk6
    replace B0 := B0.kept hk6
    replace hT := hT.keep hk6
    clear hk6 c0
    have c0 := B0.cell
    have HCs := Lib.hid (statesBack_cases t O)
    rcases HCs.out with hneg | ⟨_, o, rfl, ho, hy⟩
    · rw [hneg]
      have hxl2 : (X : Int) < 4294967296 := by omega
      clear hneg
      go_wp2_with fail
      go_ret
      exact ⟨rfl, hk0⟩
    · rw [hy]
      clear hy HCs
      have HMeet := Lib.hid (meet_dec (Sp.rel t) (S := s) (O := o) hs)
      have hyl := Sp.img_lt (Sp.relB t) o
      have HZ := Lib.hid (statesNext_ok HK.out ho)
      have hzl := Sp.img_lt (Sp.rel t) o
      have HAll := Lib.hid (statesNext_ok (s := s ||| o) HK.out (Sp.or_lt hs ho))
      have HOr := Lib.hid (img_or (Sp.rel t) s o)
      have HSum1 := Lib.hid (and_add_or s o)
      have hY : Hid (Sp.img (Sp.rev (Sp.rel t)) o = Sp.img (Sp.relB t) o) := rfl
      rw [hY.out] at HMeet
      clear hY
      obtain ⟨Y, HYY⟩ : ∃ Y, Hid (Sp.img (Sp.relB t) o = Y) := ⟨_, rfl⟩
      obtain ⟨Z, HZZ⟩ : ∃ Z, Hid (Sp.img (Sp.rel t) o = Z) := ⟨_, rfl⟩
      rw [HYY.out] at hyl HMeet ⊢
      rw [HZZ.out] at HZ hzl HOr
      rw [HXX.out] at HMeet HOr
      have HSum2 := Lib.hid (and_add_or X Z)
      have hal : s ||| o < 4294967296 := Sp.or_lt hs ho
      have hw1 : IntKind.i64.wrap ((s : Int) + (o : Int)) = (s : Int) + (o : Int) := by rw [IntKind.wrap_i64]; omega
      have hw2 : IntKind.i64.wrap ((s : Int) + (o : Int) - ((s &&& o : Nat) : Int)) = ((s ||| o : Nat) : Int) := by
        have := HSum1.out
        rw [IntKind.wrap_i64]; omega
      have hw3 : IntKind.i64.wrap ((X : Int) + (Z : Int)) = (X : Int) + (Z : Int) := by rw [IntKind.wrap_i64]; omega
      have hxz : X ||| Z < 4294967296 := Sp.or_lt hxl hzl
      have hw4 : IntKind.i64.wrap ((X : Int) + (Z : Int) - ((X &&& Z : Nat) : Int)) = ((X ||| Z : Nat) : Int) := by
        have := HSum2.out
        rw [IntKind.wrap_i64]; omega
      obtain ⟨P, HP⟩ : ∃ P, Hid (X &&& o = P) := ⟨_, rfl⟩
      obtain ⟨Q, HQ⟩ : ∃ Q, Hid (s &&& Y = Q) := ⟨_, rfl⟩
      rw [HP.out, HQ.out] at HMeet
      have hPQ : (P = 0 ∧ Q = 0) ∨ (0 < (P : Int) ∧ 0 < (Q : Int)) := by
        have := HMeet.out
        rw [decide_eq_decide] at this
        omega
      go_wp2_with (first | (go_at_call 50; refine (c_lboth _ _ _ (by omega) (by omega)).mono ?_; rintro e w8 ⟨rfl, rfl⟩; (try rw [HP.out]); (try rw [HQ.out])))
      refine (c_iStatesNext _ t (o : Int) _ hT).mono ?_; rintro e w7 ⟨rfl, hk7⟩
      rw [HZ.out]
      replace hk0 := hk0.trans hk7
      replace B0 := B0.kept hk7
      replace hT := hT.keep hk7
      clear hk7 c0
      have c0 := B0.cell
      rcases hPQ with ⟨rfl, rfl⟩ | ⟨hP, hQ⟩
      all_goals
        go_wp2_with (first | (go_at_call 50; refine (c_lboth _ _ _ (by omega) (by omega)).mono ?_; rintro e w8 ⟨rfl, rfl⟩; (try rw [HP.out]); (try rw [HQ.out])))
        refine (c_iStatesNext _ t ((s ||| o : Nat) : Int) _ hT).mono ?_; rintro e w9 ⟨rfl, hk9⟩
        rw [HAll.out, HOr.out]
        go_wp2_with (first | (go_at_call 50; refine (c_lboth _ _ _ (by omega) (by omega)).mono ?_; rintro e w8 ⟨rfl, rfl⟩; (try rw [HP.out]); (try rw [HQ.out])))
        go_ret
        exact ⟨rfl, hk0.trans hk9⟩

end Go.Proofs.Ytfbpcbjlogdflaa
