/- Joined texts. No condition. -/
import Derived.Test.YtphdojebdclonaaDoorProg
import Derived.Laws.BitsAllLaws
import Derived.Laws.BitsLemmas
import Derived.Test.YtphdojebdclonaaDoorQ1
/- Walks: codes and tasks are valid. Bits of numbers: plain lemmas. Walks: sets as numbers. Walks: deeds and tasks are valid. No condition. -/
namespace Go.Proofs.YtphdojebdclonaaDoor
set_option linter.unusedSimpArgs false
set_option linter.unusedVariables false
open Go.RowKit

theorem c_l1In (n lo hi : Int) (w : World) :
    Calls Tryd.prog 48 #[.int .i64 n, .int .i64 lo, .int .i64 hi] w (Ret (.bool (decide (lo ≤ n ∧ n ≤ hi))) w) := by
  by_cases h : lo ≤ n
  · go_enter Tryd.func48, Tryd.ntmps48
    go_wp2
    go_ret
    exact ⟨ret_bool (by simp [h]), rfl⟩
  · go_enter Tryd.func48, Tryd.ntmps48
    go_wp2
    go_ret
    exact ⟨ret_bool (by simp; omega), rfl⟩

theorem c_l1In_yes (n lo hi : Int) (w : World) (h : lo ≤ n ∧ n ≤ hi) :
    Calls Tryd.prog 48 #[.int .i64 n, .int .i64 lo, .int .i64 hi] w (Ret (.bool true) w) :=
  (c_l1In n lo hi w).mono fun _ _ ⟨he, hw⟩ => ⟨by rw [he, decide_eq_true h], hw⟩

theorem c_l1In_no (n lo hi : Int) (w : World) (h : ¬ (lo ≤ n ∧ n ≤ hi)) :
    Calls Tryd.prog 48 #[.int .i64 n, .int .i64 lo, .int .i64 hi] w (Ret (.bool false) w) :=
  (c_l1In n lo hi w).mono fun _ _ ⟨he, hw⟩ => ⟨by rw [he, decide_eq_false h], hw⟩

theorem c_l5Takes (s : Int) (w : World) :
    Calls Tryd.prog 144 #[.int .i64 s] w (Ret (.int .i64 (Sp.takes s)) w) := by
  go_enter Tryd.func144, Tryd.ntmps144
  go_wp2
  all_goals (go_ret; refine ⟨ret_int ?_, rfl⟩; simp_all [Sp.takes])

/-- one step of the depth, as facts without equations -/
theorem step_yes {l : List Int} {k : Nat} {p : Nat × Nat} (hk : k < l.length) (hp : Sp.depthOf (l.take k) = some p)
    (h : 0 ≤ l.getD k default ∧ l.getD k default ≤ 9 ∧ Sp.takes (l.getD k default) ≤ p.1) :
    Sp.depthOf (l.take (k + 1)) = some (p.1 - Sp.takes (l.getD k default) + 1, max p.2 (p.1 - Sp.takes (l.getD k default) + 1)) := by
  rw [Sp.depth_snoc l k hk, hp]
  simp only [Sp.dstep]
  rw [if_pos h]

theorem step_no {l : List Int} {k : Nat} {p : Nat × Nat} (hk : k < l.length) (hp : Sp.depthOf (l.take k) = some p)
    (h : ¬ (0 ≤ l.getD k default ∧ l.getD k default ≤ 9 ∧ Sp.takes (l.getD k default) ≤ p.1)) : Sp.codeDepth l = -1 := by
  have h1 : Sp.depthOf (l.take (k + 1)) = none := by
    rw [Sp.depth_snoc l k hk, hp]
    simp only [Sp.dstep]
    rw [if_neg h]
  have h2 := Sp.depth_take_none l _ h1
  unfold Sp.codeDepth
  rw [h2]

theorem depth_end {l : List Int} {p : Nat × Nat} (hp : Sp.depthOf l = some p) :
    Sp.codeDepth l = if 1 ≤ l.length ∧ l.length ≤ 40 ∧ p.1 = 1 then (p.2 : Int) else -1 := by
  unfold Sp.codeDepth
  rw [hp]

theorem c_sCodeDepth (A : Option Addr) (n c : Nat) (l : List Int) (w : World) (h : Ints w A n l) :
    Calls Tryd.prog 123 #[.slice A n c] w (Ret (.int .i64 (Sp.codeDepth l)) w) := by
  have hn := h.le
  have HL := Lib.hid h.len
  go_enter Tryd.func123, Tryd.ntmps123
  go_wp2
  go_loop [3, 4, 5] (fun many most i => ∃ (k d m : Nat), k ≤ n ∧ i = .int .i64 k ∧ many = .int .i64 d ∧ most = .int .i64 m ∧ d ≤ k ∧ m ≤ k ∧ Hid (Sp.depthOf (l.take k) = some (d, m))) (fun _ _ i => n - (intOf i).toNat)
  case atStart => exact ⟨0, 0, 0, Nat.zero_le _, rfl, rfl, rfl, Nat.le_refl _, Nat.le_refl _, rfl⟩
  case round =>
    obtain ⟨k, d, m, hk, rfl, rfl, rfl, hd, hm, HD⟩ := hrel
    by_cases hlt : k < n
    · obtain ⟨b, off, rfl, hb, hc, hin⟩ := h.at hlt
      have hkl : k < l.length := by rw [HL.out]; exact hlt
      have HY := @step_yes l k (d, m) hkl HD.out
      have HN := @step_no l k (d, m) hkl HD.out
      generalize l.getD k default = x at *
      by_cases hx : 0 ≤ x ∧ x ≤ 9
      · by_cases ht : Sp.takes x ≤ d
        · have HY' := Lib.hid (HY ⟨hx.1, hx.2, ht⟩)
          clear HY HN
          go_wp2_with (first | (go_at_call 48; refine (c_l1In_yes _ _ _ _ hx).mono ?_; rintro e w' ⟨rfl, rfl⟩) | (go_at_call 144; refine (c_l5Takes _ _).mono ?_; rintro e w' ⟨rfl, rfl⟩))
          exact ⟨⟨k + 1, d - Sp.takes x + 1, max m (d - Sp.takes x + 1), by omega, by go_num, by congr 1; omega, by congr 1; split <;> omega, by omega, by omega, HY'⟩, by simp [intOf]; omega⟩
        · have HN' := Lib.hid (HN (fun h => ht h.2.2))
          clear HY HN
          go_wp2_with (first | (go_at_call 48; refine (c_l1In_yes _ _ _ _ hx).mono ?_; rintro e w' ⟨rfl, rfl⟩) | (go_at_call 144; refine (c_l5Takes _ _).mono ?_; rintro e w' ⟨rfl, rfl⟩))
          go_ret
          exact ⟨ret_int HN'.out.symm, rfl⟩
      · have HN' := Lib.hid (HN (fun h => hx ⟨h.1, h.2.1⟩))
        clear HY HN
        go_wp2_with (first | (go_at_call 48; refine (c_l1In_no _ _ _ _ hx).mono ?_; rintro e w' ⟨rfl, rfl⟩) | (go_at_call 144; refine (c_l5Takes _ _).mono ?_; rintro e w' ⟨rfl, rfl⟩))
        go_ret
        exact ⟨ret_int HN'.out.symm, rfl⟩
    · have HE := Lib.hid (depth_end (l := l) (p := (d, m)) (by have := HD.out; rwa [Sp.take_all l k (by rw [HL.out]; omega)] at this))
      rw [HL.out] at HE
      by_cases hr : (1 : Int) ≤ (n : Int) ∧ (n : Int) ≤ 40
      · by_cases h1 : d = 1
        · subst h1
          go_wp2_with (first | (go_at_call 48; refine (c_l1In_yes _ _ _ _ hr).mono ?_; rintro e w' ⟨rfl, rfl⟩))
          go_ret
          exact ⟨ret_int (by rw [HE.out, if_pos (by refine ⟨by omega, by omega, ?_⟩; simp)]), rfl⟩
        · go_wp2_with (first | (go_at_call 48; refine (c_l1In_yes _ _ _ _ hr).mono ?_; rintro e w' ⟨rfl, rfl⟩))
          go_ret
          exact ⟨ret_int (by rw [HE.out, if_neg (by omega)]), rfl⟩
      · go_wp2_with (first | (go_at_call 48; refine (c_l1In_no _ _ _ _ hr).mono ?_; rintro e w' ⟨rfl, rfl⟩))
        go_ret
        exact ⟨ret_int (by rw [HE.out, if_neg (by omega)]), rfl⟩

theorem c_sCodeValid (A : Option Addr) (n c : Nat) (l : List Int) (w : World) (h : Ints w A n l) :
    Calls Tryd.prog 64 #[.slice A n c] w (Ret (.bool (Sp.codeOk l)) w) := by
  go_enter Tryd.func64, Tryd.ntmps64
  go_wp2_with (first | (go_at_call 123; refine (c_sCodeDepth _ _ _ _ _ h).mono ?_; rintro e w' ⟨rfl, rfl⟩))
  go_ret
  exact ⟨ret_bool (by rw [Sp.codeOk_pos]), rfl⟩

theorem c_iCodeDepth (A : Option Addr) (n c : Nat) (l : List Int) (w : World) (h : Ints w A n l) :
    Calls Tryd.prog 120 #[.slice A n c] w (Ret (.int .i64 (Sp.codeDepth l)) w) := by
  have hn := h.le
  have HL := Lib.hid h.len
  by_cases hr : 1 ≤ n ∧ n ≤ 40
  · obtain ⟨hr1, hr2⟩ := hr
    go_enter Tryd.func120, Tryd.ntmps120
    go_wp2
    go_loop [3, 4, 17] (fun many most i => ∃ (k d m : Nat), k ≤ n ∧ i = .int .i64 k ∧ many = .int .i64 d ∧ most = .int .i64 m ∧ d ≤ k ∧ m ≤ k ∧ Hid (Sp.depthOf (l.take k) = some (d, m))) (fun _ _ i => n - (intOf i).toNat)
    case atStart => exact ⟨0, 0, 0, Nat.zero_le _, rfl, rfl, rfl, Nat.le_refl _, Nat.le_refl _, rfl⟩
    case round =>
      obtain ⟨k, d, m, hk, rfl, rfl, rfl, hd, hm, HD⟩ := hrel
      by_cases hlt : k < n
      · obtain ⟨b, off, rfl, hb, hc, hin⟩ := h.at hlt
        have hkl : k < l.length := by rw [HL.out]; exact hlt
        have HY := @step_yes l k (d, m) hkl HD.out
        have HN := @step_no l k (d, m) hkl HD.out
        generalize l.getD k default = x at *
        unfold Sp.inI at hin
        have HX : Hid ((0 ≤ x ∧ x ≤ 9 ∧ Sp.takes x ≤ d → _) ∧ (¬ (0 ≤ x ∧ x ≤ 9 ∧ Sp.takes x ≤ d) → _)) := ⟨HY, HN⟩
        clear HY HN
        by_cases hx : 0 ≤ x ∧ x ≤ 9
        · obtain ⟨hx0, hx9⟩ := hx
          by_cases hx6 : x ≤ 6
          · have ht : Sp.takes x = 0 := by unfold Sp.takes; rw [if_neg (by omega), if_neg (by omega)]
            rw [ht] at HX
            have HX' := Lib.hid (HX.out.1 ⟨hx0, hx9, by omega⟩)
            clear HX ht
            go_wp2
            exact ⟨⟨k + 1, d + 1, max m (d + 1), by omega, by go_num, by go_num, by congr 1; split <;> omega, by omega, by omega, HX'⟩, by simp [intOf]; omega⟩
          · by_cases hx7 : x = 7
            · subst hx7
              rw [show Sp.takes 7 = 1 from rfl] at HX
              by_cases hd1 : 1 ≤ d
              · have HX' := Lib.hid (HX.out.1 ⟨hx0, hx9, by omega⟩)
                clear HX
                go_wp2
                exact ⟨⟨k + 1, d - 1 + 1, max m (d - 1 + 1), by omega, by go_num, by congr 1; omega, by congr 1; split <;> omega, by omega, by omega, HX'⟩, by simp [intOf]; omega⟩
              · have HX' := Lib.hid (HX.out.2 (fun h => hd1 h.2.2))
                clear HX
                go_wp2
                go_ret
                exact ⟨ret_int HX'.out.symm, rfl⟩
            · have ht : Sp.takes x = 2 := by unfold Sp.takes; rw [if_neg (by omega), if_pos (by omega)]
              rw [ht] at HX
              have hn7 : (x == 7) = false := by simp; omega
              by_cases hd2 : 2 ≤ d
              · have HX' := Lib.hid (HX.out.1 ⟨hx0, hx9, by omega⟩)
                clear HX ht
                go_wp2
                exact ⟨⟨k + 1, d - 2 + 1, max m (d - 2 + 1), by omega, by go_num, by congr 1; omega, by congr 1; split <;> omega, by omega, by omega, HX'⟩, by simp [intOf]; omega⟩
              · have HX' := Lib.hid (HX.out.2 (fun h => hd2 h.2.2))
                clear HX ht
                go_wp2
                go_ret
                exact ⟨ret_int HX'.out.symm, rfl⟩
        · have HX' := Lib.hid (HX.out.2 (fun h => hx ⟨h.1, h.2.1⟩))
          clear HX
          by_cases hx0 : 0 ≤ x
          all_goals
            go_wp2
            go_ret
            exact ⟨ret_int HX'.out.symm, rfl⟩
      · have HE := Lib.hid (depth_end (l := l) (p := (d, m)) (by have := HD.out; rwa [Sp.take_all l k (by rw [HL.out]; omega)] at this))
        rw [HL.out] at HE
        by_cases h1 : d = 1
        · subst h1
          go_wp2
          go_ret
          exact ⟨ret_int (by rw [HE.out, if_pos (by refine ⟨by omega, by omega, ?_⟩; simp)]), rfl⟩
        · go_wp2
          go_ret
          exact ⟨ret_int (by rw [HE.out, if_neg (by omega)]), rfl⟩
  · have HE : Hid (Sp.codeDepth l = -1) := by
      show Sp.codeDepth l = -1
      unfold Sp.codeDepth
      split
      · rfl
      · rw [if_neg (by rw [HL.out]; omega)]
    by_cases h1 : n < 1
    · go_enter Tryd.func120, Tryd.ntmps120
      go_wp2
      go_ret
      exact ⟨ret_int HE.out.symm, rfl⟩
    · go_enter Tryd.func120, Tryd.ntmps120
      go_wp2
      go_ret
      exact ⟨ret_int HE.out.symm, rfl⟩

theorem c_iCodeValid (A : Option Addr) (n c : Nat) (l : List Int) (w : World) (h : Ints w A n l) :
    Calls Tryd.prog 62 #[.slice A n c] w (Ret (.bool (Sp.codeOk l)) w) := by
  go_enter Tryd.func62, Tryd.ntmps62
  go_wp2_with (first | (go_at_call 120; refine (c_iCodeDepth _ _ _ _ _ h).mono ?_; rintro e w' ⟨rfl, rfl⟩))
  go_ret
  exact ⟨ret_bool (by rfl), rfl⟩

end Go.Proofs.YtphdojebdclonaaDoor

namespace Go.Proofs.YtphdojebdclonaaDoor
set_option linter.unusedSimpArgs false
set_option linter.unusedVariables false
open Go.RowKit

theorem tmod_bit (s k : Nat) : ((s : Int) / 2 ^ k).tmod 2 = (((s.testBit k).toNat : Nat) : Int) := by
  have e : ((s : Int) / 2 ^ k) = ((s / 2 ^ k : Nat) : Int) := by
    rw [Int.natCast_ediv, Int.natCast_pow]; rfl
  rw [e, Int.tmod_eq_emod_of_nonneg (Int.natCast_nonneg _)]
  rw [Nat.testBit_eq_decide_div_mod_eq]
  have h2 : s / 2 ^ k % 2 < 2 := Nat.mod_lt _ (by decide)
  by_cases h : s / 2 ^ k % 2 = 1
  · simp only [h, decide_true, Bool.toNat_true]; omega
  · simp only [h, decide_false, Bool.toNat_false]; omega

theorem ofInt_i64 (a : Nat) (ha : a < 9223372036854775808) : (BitVec.ofInt 64 (a : Int)).toNat = a := by
  rw [BitVec.ofInt_natCast, BitVec.toNat_ofNat]; exact Nat.mod_eq_of_lt (by omega)
theorem i64_and_nat (a b : Nat) (ha : a < 9223372036854775808) (hb : b < 9223372036854775808) : bits .and .i64 (a : Int) (b : Int) = ((a &&& b : Nat) : Int) := by
  have hx : a &&& b < 2 ^ 63 := Nat.and_lt_two_pow _ (by omega)
  show IntKind.i64.wrap ((BitVec.ofInt 64 (a : Int) &&& BitVec.ofInt 64 (b : Int)).toNat : Int) = _
  rw [BitVec.toNat_and, ofInt_i64 a ha, ofInt_i64 b hb, IntKind.wrap_i64]
  omega
theorem i64_or_nat (a b : Nat) (ha : a < 9223372036854775808) (hb : b < 9223372036854775808) : bits .or .i64 (a : Int) (b : Int) = ((a ||| b : Nat) : Int) := by
  have hx : a ||| b < 2 ^ 63 := Nat.or_lt_two_pow (by omega) (by omega)
  show IntKind.i64.wrap ((BitVec.ofInt 64 (a : Int) ||| BitVec.ofInt 64 (b : Int)).toNat : Int) = _
  rw [BitVec.toNat_or, ofInt_i64 a ha, ofInt_i64 b hb, IntKind.wrap_i64]
  omega
theorem i64_xor_nat (a b : Nat) (ha : a < 9223372036854775808) (hb : b < 9223372036854775808) : bits .xor .i64 (a : Int) (b : Int) = ((a ^^^ b : Nat) : Int) := by
  have hx : a ^^^ b < 2 ^ 63 := Nat.xor_lt_two_pow (by omega) (by omega)
  show IntKind.i64.wrap ((BitVec.ofInt 64 (a : Int) ^^^ BitVec.ofInt 64 (b : Int)).toNat : Int) = _
  rw [BitVec.toNat_xor, ofInt_i64 a ha, ofInt_i64 b hb, IntKind.wrap_i64]
  omega
theorem i64_and (a b : Int) (h1 : 0 ≤ a) (h2 : a ≤ 9223372036854775807) (h3 : 0 ≤ b) (h4 : b ≤ 9223372036854775807) : bits .and .i64 a b = ((a.toNat &&& b.toNat : Nat) : Int) := by
  have e := i64_and_nat a.toNat b.toNat (by omega) (by omega)
  rwa [Int.toNat_of_nonneg h1, Int.toNat_of_nonneg h3] at e

theorem and_bit (s k : Nat) (hs : s < 9223372036854775808) : bits .and .i64 ((s : Int) / 2 ^ k) 1 = (((s.testBit k).toNat : Nat) : Int) := by
  have e : ((s : Int) / 2 ^ k) = ((s / 2 ^ k : Nat) : Int) := by
    rw [Int.natCast_ediv, Int.natCast_pow]; rfl
  have hlt : s / 2 ^ k < 9223372036854775808 := Nat.lt_of_le_of_lt (Nat.div_le_self _ _) hs
  rw [e]
  have h1 := i64_and_nat (s / 2 ^ k) 1 hlt (by decide)
  rw [show ((1 : Nat) : Int) = 1 from rfl] at h1
  rw [h1, Nat.and_one_is_mod, Nat.testBit_eq_decide_div_mod_eq]
  have h2 : s / 2 ^ k % 2 < 2 := Nat.mod_lt _ (by decide)
  by_cases h : s / 2 ^ k % 2 = 1
  · simp [h]
  · have : s / 2 ^ k % 2 = 0 := by omega
    simp [this]

theorem pow_bd (k m : Nat) (h : k ≤ m) : (1 : Int) ≤ 2 ^ k ∧ (2 : Int) ^ k ≤ 2 ^ m :=
  ⟨by have : (0 : Int) < 2 ^ k := Int.pow_pos (by decide)
      omega, by exact_mod_cast Nat.pow_le_pow_right (by decide) h⟩

/-- two to a power, closed to the walk -/
def p2 (k : Nat) : Int := 2 ^ k
theorem p2_nat (k : Nat) : p2 k = ((2 ^ k : Nat) : Int) := by simp [p2]
theorem p2_bd (k m : Nat) (h : k ≤ m) : 1 ≤ p2 k ∧ p2 k ≤ p2 m := pow_bd k m h
theorem p2_62 (k : Nat) (h : k ≤ 62) : 1 ≤ p2 k ∧ p2 k ≤ 4611686018427387904 := pow_bd k 62 h
theorem shl_one (k : Nat) (hk : k ≤ 62) (yk : IntKind) : Op.shift .shl .i64 1 yk (k : Int) = pure (.int .i64 (p2 k)) := by
  obtain ⟨h1, h2⟩ := p2_62 k hk
  rw [shift_shl .i64 yk 1 k (by omega) (by show (k : Int) ≤ 64; omega)]
  rw [Int.toNat_natCast, Int.one_mul]
  show _ = pure (Value.int .i64 (2 ^ k))
  rw [IntWalk.i64_in (2 ^ k) (by unfold p2 at h1 h2; omega)]
theorem bin_shl_one (k : Nat) (hk : k ≤ 62) (T : TypeId) : binOp .shl T (.int .i64 1) (.int .i64 (k : Int)) = pure (.int .i64 (p2 k)) := shl_one k hk .i64
attribute [irreducible] p2

/-- the common bits below k -/
def low (a b k : Nat) : Nat := (a &&& b) % 2 ^ k
theorem low_zero (a b : Nat) : low a b 0 = 0 := by simp [low, Nat.mod_one]
theorem low_succ (a b k : Nat) : low a b (k + 1) = low a b k + (a.testBit k).toNat * (b.testBit k).toNat * 2 ^ k := by
  unfold low
  have e : ((a &&& b).testBit k).toNat = (a &&& b) / 2 ^ k % 2 := Nat.toNat_testBit _ _
  rw [Nat.mod_pow_succ, ← e, Nat.testBit_and]
  cases a.testBit k <;> cases b.testBit k <;> simp
theorem low_lt (a b k : Nat) : low a b k < 2 ^ k := Nat.mod_lt _ (Nat.two_pow_pos k)
theorem low_all (a b k : Nat) (h : a < 2 ^ k ∨ b < 2 ^ k) : low a b k = a &&& b := by
  unfold low
  apply Nat.mod_eq_of_lt
  rcases h with h | h
  · exact Nat.lt_of_le_of_lt Nat.and_le_left h
  · exact Nat.lt_of_le_of_lt Nat.and_le_right h
attribute [irreducible] low

theorem low_step (a b k : Nat) (hk : k < 62) :
    wrap64 ((low a b k : Int) + wrap64 (wrap64 (((a.testBit k).toNat : Int) * ((b.testBit k).toNat : Int)) * 2 ^ k)) = ((low a b (k + 1) : Nat) : Int) := by
  have hs := low_succ a b k
  have hl := low_lt a b k
  obtain ⟨h1, h2⟩ := pow_bd k 61 (by omega)
  rw [show (2 : Int) ^ 61 = 2305843009213693952 from rfl] at h2
  have e : ((2 : Int) ^ k) = ((2 ^ k : Nat) : Int) := by simp
  rw [e] at h1 h2 ⊢
  generalize 2 ^ k = m at *
  have hx : ∀ x : Nat, (x = 0 ∨ x = 1) → low a b (k + 1) = low a b k + x * m → wrap64 ((low a b k : Int) + wrap64 (wrap64 (x : Int) * (m : Int))) = ((low a b (k + 1) : Nat) : Int) := by
    intro x hx he
    rcases hx with rfl | rfl
    · rw [he, IntWalk.wrap64_in ((0 : Nat) : Int) (by omega), show ((0 : Nat) : Int) * (m : Int) = 0 by simp, IntWalk.wrap64_in (0 : Int) (by omega), IntWalk.wrap64_in _ (by omega)]; omega
    · rw [he, IntWalk.wrap64_in ((1 : Nat) : Int) (by omega), show ((1 : Nat) : Int) * (m : Int) = m by simp, IntWalk.wrap64_in (m : Int) (by omega), IntWalk.wrap64_in _ (by omega)]; omega
  have := hx ((a.testBit k).toNat * (b.testBit k).toNat) (by cases a.testBit k <;> cases b.testBit k <;> simp) hs
  rw [← this]
  simp

theorem xor_sumF (f : Nat) : ∀ a b, a < 2 ^ f → b < 2 ^ f → (a ^^^ b) + 2 * (a &&& b) = a + b := by
  induction f with
  | zero => intro a b ha hb; have h1 : a = 0 := by simpa using ha
            have h2 : b = 0 := by simpa using hb
            subst h1; subst h2; rfl
  | succ f ih =>
    intro a b ha hb
    have h := ih (a / 2) (b / 2) (by rw [Nat.pow_succ] at ha; omega) (by rw [Nat.pow_succ] at hb; omega)
    rw [← Nat.xor_div_two, ← Nat.and_div_two] at h
    have hx : (a ^^^ b) % 2 = 1 ↔ ¬ (a % 2 = 1 ↔ b % 2 = 1) := Nat.xor_mod_two_eq_one
    have ha2 : (a &&& b) % 2 = 1 ↔ a % 2 = 1 ∧ b % 2 = 1 := Nat.and_mod_two_eq_one
    omega
theorem xor_sum (a b : Nat) : (a ^^^ b) + 2 * (a &&& b) = a + b :=
  xor_sumF (a + b) a b (Nat.lt_of_le_of_lt (Nat.le_add_right a b) Nat.lt_two_pow_self) (Nat.lt_of_le_of_lt (Nat.le_add_left b a) Nat.lt_two_pow_self)
theorem or_sumF (f : Nat) : ∀ a b, a < 2 ^ f → b < 2 ^ f → (a ||| b) + (a &&& b) = a + b := by
  induction f with
  | zero => intro a b ha hb; have h1 : a = 0 := by simpa using ha
            have h2 : b = 0 := by simpa using hb
            subst h1; subst h2; rfl
  | succ f ih =>
    intro a b ha hb
    have h := ih (a / 2) (b / 2) (by rw [Nat.pow_succ] at ha; omega) (by rw [Nat.pow_succ] at hb; omega)
    rw [← Nat.or_div_two, ← Nat.and_div_two] at h
    have hx : (a ||| b) % 2 = 1 ↔ a % 2 = 1 ∨ b % 2 = 1 := Nat.or_mod_two_eq_one
    have ha2 : (a &&& b) % 2 = 1 ↔ a % 2 = 1 ∧ b % 2 = 1 := Nat.and_mod_two_eq_one
    omega
theorem or_sum (a b : Nat) : (a ||| b) + (a &&& b) = a + b :=
  or_sumF (a + b) a b (Nat.lt_of_le_of_lt (Nat.le_add_right a b) Nat.lt_two_pow_self) (Nat.lt_of_le_of_lt (Nat.le_add_left b a) Nat.lt_two_pow_self)

/-- how many bits are set -/
def cntF : Nat → Nat → Nat
  | 0, _ => 0
  | f + 1, s => s % 2 + cntF f (s / 2)
def cnt (s : Nat) : Nat := cntF 64 s

theorem cntF_zero (f : Nat) : cntF f 0 = 0 := by induction f with | zero => rfl | succ f ih => simp [cntF, ih]

theorem cntF_more (f g : Nat) : ∀ s, s < 2 ^ f → f ≤ g → cntF g s = cntF f s := by
  induction f generalizing g with
  | zero => intro s hs _; have : s = 0 := by simpa using hs
            subst this; simp [cntF_zero]
  | succ f ih =>
    intro s hs hg
    cases g with
    | zero => omega
    | succ g =>
      simp only [cntF]
      rw [ih g (s / 2) (by rw [Nat.pow_succ] at hs; omega) (by omega)]

theorem cnt_half (s : Nat) (hs : s < 2 ^ 63) : cnt s = s % 2 + cnt (s / 2) := by
  have e : cntF (63 + 1) s = s % 2 + cntF 63 (s / 2) := rfl
  have e2 : cnt (s / 2) = cntF 63 (s / 2) := cntF_more 63 64 (s / 2) (by omega) (by omega)
  rw [e2]
  exact e

theorem cntF_le (f : Nat) : ∀ s, cntF f s ≤ f := by
  induction f with
  | zero => intro s; simp [cntF]
  | succ f ih => intro s; simp only [cntF]; have := ih (s / 2); omega

theorem cnt_le (s : Nat) : cnt s ≤ 64 := cntF_le 64 s

theorem and_pred (f : Nat) : ∀ s, s < 2 ^ f → 0 < s → cntF f (s &&& (s - 1)) + 1 = cntF f s := by
  induction f with
  | zero => intro s hs h0; simp at hs; omega
  | succ f ih =>
    intro s hs h0
    simp only [cntF]
    rw [Nat.and_div_two]
    have hm := @Nat.and_mod_two_eq_one s (s - 1)
    have hlt : (s &&& (s - 1)) % 2 < 2 := Nat.mod_lt _ (by decide)
    have hz : (s &&& (s - 1)) % 2 = 0 := by
      by_cases h : (s &&& (s - 1)) % 2 = 1
      · have := hm.1 h; omega
      · omega
    rw [hz]
    by_cases ho : s % 2 = 1
    · have : (s - 1) / 2 = s / 2 := by omega
      rw [this, Nat.and_self]; omega
    · have h1 : (s - 1) / 2 = s / 2 - 1 := by omega
      have := ih (s / 2) (by rw [Nat.pow_succ] at hs; omega) (by omega)
      rw [h1]; omega

theorem cnt_pred (s : Nat) (hs : s < 2 ^ 63) (h0 : 0 < s) : cnt (s &&& (s - 1)) + 1 = cnt s := and_pred 64 s (by omega) h0
theorem cnt_zero : cnt 0 = 0 := cntF_zero 64
attribute [irreducible] cnt

end Go.Proofs.YtphdojebdclonaaDoor

namespace Go.Proofs.YtphdojebdclonaaDoor
set_option linter.unusedSimpArgs false
set_option linter.unusedVariables false
open Go.RowKit

theorem c_l1Bit (s k : Int) (w : World) (hs0 : 0 ≤ s) (hs : s ≤ 4611686018427387904) (hk0 : 0 ≤ k) (hk : k < 64) :
    Calls Tryd.prog 100 #[.int .i64 s, .int .i64 k] w (Ret (.int .i64 ((s.toNat.testBit k.toNat).toNat : Nat)) w) := by
  obtain ⟨s, rfl⟩ := Int.eq_ofNat_of_zero_le hs0
  obtain ⟨k, rfl⟩ := Int.eq_ofNat_of_zero_le hk0
  rw [Int.toNat_natCast, Int.toNat_natCast]
  go_enter Tryd.func100, Tryd.ntmps100
  go_wp2
  go_ret
  exact ⟨ret_int (tmod_bit s k), rfl⟩

theorem c_stateOk (s : Int) (w : World) :
    Calls Tryd.prog 77 #[.int .i64 s] w (Ret (.bool (Sp.stOk s)) w) := by
  by_cases h : 0 ≤ s
  · go_enter Tryd.func77, Tryd.ntmps77
    go_wp2
    go_ret
    exact ⟨ret_bool (by simp [h, Sp.stOk]; omega), rfl⟩
  · go_enter Tryd.func77, Tryd.ntmps77
    go_wp2
    go_ret
    exact ⟨ret_bool (by simp [Sp.stOk]; omega), rfl⟩

theorem c_l1In_st (s : Int) (w : World) :
    Calls Tryd.prog 48 #[.int .i64 s, .int .i64 0, .int .i64 31] w (Ret (.bool (Sp.stOk s)) w) :=
  (c_l1In s 0 31 w).mono fun _ _ h => h

theorem c_countBits (s : Int) (w : World) (hs0 : 0 ≤ s) (hs : s ≤ 4611686018427387904) :
    Calls Tryd.prog 112 #[.int .i64 s] w (Ret (.int .i64 (cnt s.toNat)) w) := by
  obtain ⟨s, rfl⟩ := Int.eq_ofNat_of_zero_le hs0
  rw [Int.toNat_natCast]
  go_enter Tryd.func112, Tryd.ntmps112
  go_wp2
  go_loop [0, 3] (fun v m => ∃ (t c : Nat), v = .int .i64 t ∧ m = .int .i64 c ∧ t ≤ s ∧ c ≤ 64 ∧ Hid (c + cnt t = cnt s)) (fun v _ => (intOf v).toNat)
  case atStart => exact ⟨s, 0, rfl, rfl, Nat.le_refl _, by omega, by show 0 + cnt s = cnt s; omega⟩
  case round =>
    obtain ⟨t, c, rfl, rfl, ht, hc, HC⟩ := hrel
    by_cases h0 : t = 0
    · subst h0
      have HE : Hid (c = cnt s) := by have := HC.out; rw [cnt_zero] at this; show c = cnt s; omega
      go_wp2
      go_ret
      exact ⟨ret_int (by rw [HE.out]), rfl⟩
    · have hp := cnt_pred t (by omega) (by omega)
      have hle := cnt_le s
      have HE : Hid (c + 1 + cnt (t &&& (t - 1)) = cnt s) := by have := HC.out; show c + 1 + cnt (t &&& (t - 1)) = cnt s; omega
      have hc2 : c + 1 ≤ 64 := by have := HE.out; omega
      clear hp HC hle
      have hb : bits .and .i64 (t : Int) ((t : Int) - 1) = ((t &&& (t - 1) : Nat) : Int) := by
        have := i64_and_nat t (t - 1) (by omega) (by omega)
        rwa [show (((t - 1 : Nat)) : Int) = (t : Int) - 1 by omega] at this
      have hlt : t &&& (t - 1) ≤ t - 1 := Nat.and_le_right
      have hne : ((t : Int) == 0) = false := by simp; omega
      have hne' : ((t : Int) != 0) = true := by simp; omega
      go_wp2
      exact ⟨⟨t &&& (t - 1), c + 1, rfl, by go_num, by omega, by omega, HE⟩, by simp [intOf]; omega⟩

theorem c_l1Many (s : Int) (w : World) (hs0 : 0 ≤ s) (hs : s ≤ 4611686018427387904) :
    Calls Tryd.prog 158 #[.int .i64 s] w (Ret (.int .i64 (cnt s.toNat)) w) := by
  obtain ⟨s, rfl⟩ := Int.eq_ofNat_of_zero_le hs0
  rw [Int.toNat_natCast]
  go_enter Tryd.func158, Tryd.ntmps158
  go_wp2
  go_loop [0, 3] (fun v m => ∃ (t c : Nat), v = .int .i64 t ∧ m = .int .i64 c ∧ t ≤ s ∧ c ≤ 64 ∧ Hid (c + cnt t = cnt s)) (fun v _ => (intOf v).toNat)
  case atStart => exact ⟨s, 0, rfl, rfl, Nat.le_refl _, by omega, by show 0 + cnt s = cnt s; omega⟩
  case round =>
    obtain ⟨t, c, rfl, rfl, ht, hc, HC⟩ := hrel
    by_cases h0 : t = 0
    · subst h0
      have HE : Hid (c = cnt s) := by have := HC.out; rw [cnt_zero] at this; show c = cnt s; omega
      go_wp2
      go_ret
      exact ⟨ret_int (by rw [HE.out]), rfl⟩
    · have hp := cnt_half t (by omega)
      have hle := cnt_le s
      have HE : Hid (c + t % 2 + cnt (t / 2) = cnt s) := by have := HC.out; show c + t % 2 + cnt (t / 2) = cnt s; omega
      have hc2 : c + t % 2 ≤ 64 := by have := HE.out; omega
      clear hp HC hle
      go_wp2
      exact ⟨⟨t / 2, c + t % 2, by go_num, by go_num, by omega, by omega, HE⟩, by simp [intOf]; omega⟩

theorem c_l1Both (a b : Int) (w : World) (ha0 : 0 ≤ a) (ha : a < 4611686018427387904) (hb0 : 0 ≤ b) (hb : b < 4611686018427387904) :
    Calls Tryd.prog 110 #[.int .i64 a, .int .i64 b] w (Ret (.int .i64 ((a.toNat &&& b.toNat : Nat) : Int)) w) := by
  obtain ⟨a, rfl⟩ := Int.eq_ofNat_of_zero_le ha0
  obtain ⟨b, rfl⟩ := Int.eq_ofNat_of_zero_le hb0
  rw [Int.toNat_natCast, Int.toNat_natCast]
  go_enter Tryd.func110, Tryd.ntmps110
  go_wp2
  go_loop [5, 6] (fun o i => ∃ (k : Nat), k ≤ 62 ∧ i = .int .i64 k ∧ o = .int .i64 (low a b k)) (fun _ i => 62 - (intOf i).toNat)
  case atStart => exact ⟨0, by omega, rfl, by rw [low_zero]; rfl⟩
  case round =>
    obtain ⟨k, hk, rfl, rfl⟩ := hrel
    have hsh := bin_shl_one k hk
    have hbd := p2_62 k hk
    by_cases h1 : p2 k ≤ (a : Int)
    · by_cases h2 : p2 k ≤ (b : Int)
      · have hk' : k < 62 := by
          rcases Nat.lt_or_ge k 62 with h | h
          · exact h
          · exfalso
            have e : k = 62 := by omega
            subst e
            have := p2_nat 62
            omega
        have HS := Lib.hid (low_succ a b k)
        have HB := Lib.hid (low_lt a b k)
        have HP := Lib.hid (p2_nat k)
        have hl0 : (low a b k : Int) < p2 k := by rw [HP.out]; exact_mod_cast HB.out
        go_wp2_with (first | (go_at_call 100; refine (c_l1Bit _ _ _ (by omega) (by omega) (by omega) (by omega)).mono ?_; rintro e w' ⟨rfl, rfl⟩))
        exact ⟨⟨k + 1, by omega, by go_num, by rw [low_step a b k hk']⟩, by simp [intOf]; omega⟩
      · have HE : Hid (low a b k = a &&& b) := low_all a b k (.inr (by have := p2_nat k; omega))
        go_wp2
        go_ret
        exact ⟨ret_int (by rw [HE.out]), rfl⟩
    · have HE : Hid (low a b k = a &&& b) := low_all a b k (.inl (by have := p2_nat k; omega))
      go_wp2
      go_ret
      exact ⟨ret_int (by rw [HE.out]), rfl⟩

theorem c_l1Either (a b : Int) (w : World) (ha0 : 0 ≤ a) (ha : a < 4611686018427387904) (hb0 : 0 ≤ b) (hb : b < 4611686018427387904) :
    Calls Tryd.prog 109 #[.int .i64 a, .int .i64 b] w (Ret (.int .i64 ((a.toNat ||| b.toNat : Nat) : Int)) w) := by
  obtain ⟨a, rfl⟩ := Int.eq_ofNat_of_zero_le ha0
  obtain ⟨b, rfl⟩ := Int.eq_ofNat_of_zero_le hb0
  rw [Int.toNat_natCast, Int.toNat_natCast]
  have HE := Lib.hid (or_sum a b)
  have hle : a &&& b ≤ a := Nat.and_le_left
  go_enter Tryd.func109, Tryd.ntmps109
  go_wp2_with fail
  refine (c_l1Both _ _ _ (by omega) (by omega) (by omega) (by omega)).mono ?_; rintro e w' ⟨rfl, rfl⟩
  rw [Int.toNat_natCast, Int.toNat_natCast]
  go_wp2
  go_ret
  exact ⟨ret_int (by have := HE.out; omega), rfl⟩

theorem c_l1Other (a b : Int) (w : World) (ha0 : 0 ≤ a) (ha : a < 4611686018427387904) (hb0 : 0 ≤ b) (hb : b < 4611686018427387904) :
    Calls Tryd.prog 108 #[.int .i64 a, .int .i64 b] w (Ret (.int .i64 ((a.toNat ^^^ b.toNat : Nat) : Int)) w) := by
  obtain ⟨a, rfl⟩ := Int.eq_ofNat_of_zero_le ha0
  obtain ⟨b, rfl⟩ := Int.eq_ofNat_of_zero_le hb0
  rw [Int.toNat_natCast, Int.toNat_natCast]
  have HE := Lib.hid (xor_sum a b)
  have hle : a &&& b ≤ a := Nat.and_le_left
  go_enter Tryd.func108, Tryd.ntmps108
  go_wp2_with fail
  refine (c_l1Both _ _ _ (by omega) (by omega) (by omega) (by omega)).mono ?_; rintro e w' ⟨rfl, rfl⟩
  rw [Int.toNat_natCast, Int.toNat_natCast]
  go_wp2
  go_ret
  exact ⟨ret_int (by have := HE.out; omega), rfl⟩

end Go.Proofs.YtphdojebdclonaaDoor

namespace Go.Proofs.YtphdojebdclonaaDoor
set_option linter.unusedSimpArgs false
set_option linter.unusedVariables false
open Go.RowKit

theorem st_bd {s : Int} (h : Sp.stOk s = true) : 0 ≤ s ∧ s ≤ 31 := by simpa [Sp.stOk] using h

theorem and_st {a b : Int} (ha : Sp.stOk a = true) (hb : Sp.stOk b = true) : bits .and .i64 a b = ((a.toNat &&& b.toNat : Nat) : Int) := by
  have h1 := st_bd ha
  have h2 := st_bd hb
  exact i64_and a b (by omega) (by omega) (by omega) (by omega)

theorem c_iDeedValid (v : Value) (d : Sp.Deed) (w : World) (h : DeedV w v d) :
    Calls Tryd.prog 78 #[v] w (RetK (.bool (Sp.deedOk d)) w) := by
  obtain ⟨A, n, c, rfl, hI, h1, h2, h3⟩ := h
  have hk := (Kept.refl w).alloc (.cells #[.slice A n c, .int .i64 d.on, .int .i64 d.off, .int .i64 d.flip] 72)
  have hI' := hI.keep hk
  clear h1 h2 h3
  go_enter Tryd.func78, Tryd.ntmps78
  go_wp2_with (first | (go_at_call 62; refine (c_iCodeValid _ _ _ _ _ hI').mono ?_; rintro e w' ⟨rfl, rfl⟩) | (go_at_call 77; refine (c_stateOk _ _).mono ?_; rintro e w' ⟨rfl, rfl⟩))
  all_goals
    go_ret
    refine ⟨ret_bool ?_, hk⟩
    clear hk hI' hI
    simp_all [Sp.deedOk, and_st]
    try (rw [Bool.eq_iff_iff]; simp)

theorem c_sDeedValid (v : Value) (d : Sp.Deed) (w : World) (h : DeedV w v d) :
    Calls Tryd.prog 107 #[v] w (RetK (.bool (Sp.deedOk d)) w) := by
  obtain ⟨A, n, c, rfl, hI, h1, h2, h3⟩ := h
  have hk := (Kept.refl w).alloc (.cells #[.slice A n c, .int .i64 d.on, .int .i64 d.off, .int .i64 d.flip] 72)
  have hI' := hI.keep hk
  clear h1 h2 h3
  cases h1 : Sp.stOk d.on
  · go_enter Tryd.func107, Tryd.ntmps107
    go_wp2_with (first | (go_at_call 48; refine (c_l1In_st _ _).mono ?_; rintro e w' ⟨rfl, rfl⟩))
    go_ret
    exact ⟨ret_bool (by simp [Sp.deedOk, h1]), hk⟩
  cases h2 : Sp.stOk d.off
  · go_enter Tryd.func107, Tryd.ntmps107
    go_wp2_with (first | (go_at_call 48; refine (c_l1In_st _ _).mono ?_; rintro e w' ⟨rfl, rfl⟩))
    go_ret
    exact ⟨ret_bool (by simp [Sp.deedOk, h2]), hk⟩
  cases h3 : Sp.stOk d.flip
  · go_enter Tryd.func107, Tryd.ntmps107
    go_wp2_with (first | (go_at_call 48; refine (c_l1In_st _ _).mono ?_; rintro e w' ⟨rfl, rfl⟩))
    go_ret
    exact ⟨ret_bool (by simp [Sp.deedOk, h3]), hk⟩
  have b1 := st_bd h1
  have b2 := st_bd h2
  have b3 := st_bd h3
  go_enter Tryd.func107, Tryd.ntmps107
  go_wp2_with (first | (go_at_call 48; refine (c_l1In_st _ _).mono ?_; rintro e w' ⟨rfl, rfl⟩) | (go_at_call 64; refine (c_sCodeValid _ _ _ _ _ hI').mono ?_; rintro e w' ⟨rfl, rfl⟩) | (go_at_call 110; refine (c_l1Both _ _ _ (by omega) (by omega) (by omega) (by omega)).mono ?_; rintro e w' ⟨rfl, rfl⟩))
  all_goals
    go_ret
    refine ⟨ret_bool ?_, hk⟩
    clear hk hI' hI b1 b2 b3
    simp_all [Sp.deedOk]
    try (rw [Bool.eq_iff_iff]; simp)

/-- the deed at place k, loaded -/
theorem DeedCells.v {w : World} {b o : Nat} {d : Sp.Deed} (h : DeedCells w b o d) :
    ∃ A n c, w.cell? ⟨b, o, none⟩ = some (.slice A n c) ∧ w.cell? ⟨b, o + 1, none⟩ = some (.int .i64 d.on) ∧ w.cell? ⟨b, o + 2, none⟩ = some (.int .i64 d.off) ∧
      w.cell? ⟨b, o + 3, none⟩ = some (.int .i64 d.flip) ∧ DeedV w (.agg #[.slice A n c, .int .i64 d.on, .int .i64 d.off, .int .i64 d.flip]) d := by
  obtain ⟨A, n, c, h1, h2, h3, h4, h5, h6⟩ := h
  exact ⟨A, n, c, h1, h3, h4, h5, A, n, c, rfl, h2, h6⟩

theorem all_take_succ {α : Type} [Inhabited α] (l : List α) (p : α → Bool) (k : Nat) (h : k < l.length) : (l.take (k + 1)).all p = ((l.take k).all p && p (l.getD k default)) := by
  rw [List.take_succ_eq_append_getElem h, List.all_append]
  simp [List.getD, h]

theorem all_take_no {α : Type} [Inhabited α] (l : List α) (p : α → Bool) (k : Nat) (h : k < l.length) (hp : p (l.getD k default) = false) : l.all p = false := by
  rw [List.all_eq_false]
  refine ⟨l.getD k default, ?_, by rw [hp]; decide⟩
  simp only [List.getD_eq_getElem?_getD, List.getElem?_eq_getElem h, Option.getD_some]
  exact List.getElem_mem _

theorem taskOk_no {t : Sp.Task} {k : Nat} (h : k < t.deeds.length) (hp : Sp.deedOk (t.deeds.getD k default) = false) : Sp.taskOk t = false := by
  unfold Sp.taskOk
  rw [all_take_no _ _ k h hp, Bool.and_false]

theorem c_sTaskValid (v : Value) (t : Sp.Task) (w : World) (h : TaskV w v t) :
    Calls Tryd.prog 47 #[v] w (RetK (.bool (Sp.taskOk t)) w) := by
  obtain ⟨A, n, c, A', n', c', rfl, hI, hD, h1⟩ := h
  have hn := hD.le
  have HL := Lib.hid hD.len
  go_enter Tryd.func47, Tryd.ntmps47
  go_wp2_with fail
  go_loopw [3] (fun i wr => ∃ k : Nat, k ≤ n' ∧ i = .int .i64 k ∧ Kept (w.alloc (.cells #[.int .i64 t.start, .slice A n c, .slice A' n' c'] 26)) wr ∧ Hid ((t.deeds.take k).all Sp.deedOk = true)) (fun i _ => n' - (intOf i).toNat)
  case atStart => exact ⟨0, Nat.zero_le _, rfl, Kept.refl _, rfl⟩
  case round =>
    obtain ⟨k, hk, rfl, hkp, HA⟩ := hrel
    have hb0 := hkp.box 0
    have hb1 := hkp.box 1
    have hb2 := hkp.box 2
    simp only [List.getElem?_toArray, List.getElem?_cons_zero, List.getElem?_cons_succ] at hb0 hb1 hb2
    have hkw := hkp.unbox
    by_cases hlt : k < n'
    · have hkl : k < t.deeds.length := by rw [HL.out]; exact hlt
      obtain ⟨b, off, rfl, hb, hc⟩ := (hD.keep hkw).at hlt
      have HY := all_take_succ t.deeds Sp.deedOk k hkl
      have HN := @taskOk_no t k hkl
      generalize t.deeds.getD k default = d at *
      obtain ⟨A2, n2, c2, hc0, hc1, hc2, hc3, hdv⟩ := hc.v
      cases hdo : Sp.deedOk d
      · have HN' := Lib.hid (HN hdo)
        have HDO := Lib.hid hdo
        clear HN HY hdo
        go_wp2_with fail
        refine (c_sDeedValid _ d _ hdv).mono ?_; rintro e w2 ⟨rfl, hk2⟩
        rw [HDO.out]
        go_wp2_with fail
        go_ret
        exact ⟨ret_bool HN'.out.symm, hkw.trans hk2⟩
      · have HY' : Hid ((t.deeds.take (k + 1)).all Sp.deedOk = true) := by show _ = true; rw [HY, HA.out, hdo]; rfl
        have HDO := Lib.hid hdo
        clear HN HY hdo
        go_wp2_with fail
        refine (c_sDeedValid _ d _ hdv).mono ?_; rintro e w2 ⟨rfl, hk2⟩
        rw [HDO.out]
        go_wp2_with fail
        exact ⟨⟨k + 1, by omega, by go_num, hkp.trans hk2, HY'⟩, by simp [intOf]; omega⟩
    · have HE : Hid (t.deeds.all Sp.deedOk = true) := by have := HA.out; rwa [Sp.take_all _ k (by rw [HL.out]; omega)] at this
      go_wp2_with (first | (go_at_call 48; refine (c_l1In_st _ _).mono ?_; rintro e w' ⟨rfl, rfl⟩) | (go_at_call 64; refine (c_sCodeValid _ _ _ _ _ (hI.keep hkw)).mono ?_; rintro e w' ⟨rfl, rfl⟩))
      all_goals
        go_ret
        refine ⟨ret_bool ?_, hkw⟩
        unfold Sp.taskOk
        rw [HE.out, HL.out]
        clear HE HL HA hI hD hkp hkw
        simp_all
        all_goals first | omega | (rw [Bool.eq_iff_iff]; simp; omega)

theorem c_iTaskValid (v : Value) (t : Sp.Task) (w : World) (h : TaskV w v t) :
    Calls Tryd.prog 30 #[v] w (RetK (.bool (Sp.taskOk t)) w) := by
  obtain ⟨A, n, c, A', n', c', rfl, hI, hD, h1⟩ := h
  have hn := hD.le
  have HL := Lib.hid hD.len
  have hk0 := (Kept.refl w).alloc (.cells #[.int .i64 t.start, .slice A n c, .slice A' n' c'] 26)
  cases hs : Sp.stOk t.start
  · go_enter Tryd.func30, Tryd.ntmps30
    go_wp2_with (first | (go_at_call 77; refine (c_stateOk _ _).mono ?_; rintro e w' ⟨rfl, rfl⟩))
    go_ret
    exact ⟨ret_bool (by simp [Sp.taskOk, hs]), hk0⟩
  cases hg : Sp.codeOk t.goal
  · have HG := Lib.hid hg
    clear hg
    go_enter Tryd.func30, Tryd.ntmps30
    go_wp2_with (first | (go_at_call 77; refine (c_stateOk _ _).mono ?_; rintro e w' ⟨rfl, rfl⟩))
    refine (c_iCodeValid _ _ _ _ _ (hI.keep hk0)).mono ?_; rintro e w2 ⟨rfl, rfl⟩
    rw [HG.out]
    go_wp2_with fail
    go_ret
    exact ⟨ret_bool (by simp [Sp.taskOk, HG.out]), hk0⟩
  have HG := Lib.hid hg
  have HS := Lib.hid hs
  clear hg
  by_cases h6 : n' ≤ 6
  · go_enter Tryd.func30, Tryd.ntmps30
    go_wp2_with (first | (go_at_call 77; refine (c_stateOk _ _).mono ?_; rintro e w' ⟨rfl, rfl⟩))
    refine (c_iCodeValid _ _ _ _ _ (hI.keep hk0)).mono ?_; rintro e w2 ⟨rfl, rfl⟩
    rw [HG.out]
    go_wp2_with fail
    clear hs
    go_loopw [24] (fun i wr => ∃ k : Nat, k ≤ n' ∧ i = .int .i64 k ∧ Kept (w.alloc (.cells #[.int .i64 t.start, .slice A n c, .slice A' n' c'] 26)) wr ∧ Hid ((t.deeds.take k).all Sp.deedOk = true)) (fun i _ => n' - (intOf i).toNat)
    case atStart => exact ⟨0, Nat.zero_le _, rfl, Kept.refl _, rfl⟩
    case round =>
      obtain ⟨k, hk, rfl, hkp, HA⟩ := hrel
      have hkw := hkp.unbox
      by_cases hlt : k < n'
      · have hkl : k < t.deeds.length := by rw [HL.out]; exact hlt
        obtain ⟨b, off, rfl, hb, hc⟩ := (hD.keep hkw).at hlt
        have HY := all_take_succ t.deeds Sp.deedOk k hkl
        have HN := @taskOk_no t k hkl
        generalize t.deeds.getD k default = d at *
        obtain ⟨A2, n2, c2, hc0, hc1, hc2, hc3, hdv⟩ := hc.v
        have hk3 := (Kept.refl wr).alloc (.cells #[.slice A2 n2 c2, .int .i64 d.on, .int .i64 d.off, .int .i64 d.flip] 72)
        have hdv3 := hdv.keep hk3
        cases hdo : Sp.deedOk d
        · have HN' := Lib.hid (HN hdo)
          have HDO := Lib.hid hdo
          clear HN HY hdo
          go_wp2_with fail
          refine (c_iDeedValid _ d _ hdv3).mono ?_; rintro e w2 ⟨rfl, hk2⟩
          rw [HDO.out]
          go_wp2_with fail
          go_ret
          exact ⟨ret_bool HN'.out.symm, hkw.trans (hk3.trans hk2)⟩
        · have HY' : Hid ((t.deeds.take (k + 1)).all Sp.deedOk = true) := by show _ = true; rw [HY, HA.out, hdo]; rfl
          have HDO := Lib.hid hdo
          clear HN HY hdo
          go_wp2_with fail
          refine (c_iDeedValid _ d _ hdv3).mono ?_; rintro e w2 ⟨rfl, hk2⟩
          rw [HDO.out]
          go_wp2_with fail
          exact ⟨⟨k + 1, by omega, by go_num, hkp.trans (hk3.trans hk2), HY'⟩, by simp [intOf]; omega⟩
      · have HE : Hid (t.deeds.all Sp.deedOk = true) := by have := HA.out; rwa [Sp.take_all _ k (by rw [HL.out]; omega)] at this
        go_wp2_with fail
        go_ret
        refine ⟨ret_bool ?_, hkw⟩
        unfold Sp.taskOk
        rw [HE.out, HL.out, HG.out, HS.out, decide_eq_true h6]; rfl
  · go_enter Tryd.func30, Tryd.ntmps30
    go_wp2_with (first | (go_at_call 77; refine (c_stateOk _ _).mono ?_; rintro e w' ⟨rfl, rfl⟩))
    refine (c_iCodeValid _ _ _ _ _ (hI.keep hk0)).mono ?_; rintro e w2 ⟨rfl, rfl⟩
    rw [HG.out]
    go_wp2_with fail
    go_ret
    exact ⟨ret_bool (by unfold Sp.taskOk; rw [HL.out, decide_eq_false h6]; simp), hk0⟩

end Go.Proofs.YtphdojebdclonaaDoor
