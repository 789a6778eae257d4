/- Walks: sets as numbers. No condition. -/
import Derived.Test.YthkcdjnnacdeoaaW1
import Derived.Test.YthkcdjnnacdeoaaBits
namespace Go.Proofs.Ythkcdjnnacdeoaa
open Go.RowKit

theorem c_l1Bit (s k : Int) (w : World) (hs0 : 0 ≤ s) (hs : s ≤ 4611686018427387904) (hk0 : 0 ≤ k) (hk : k < 64) :
    Calls Try.prog 90 #[.int .i64 s, .int .i64 k] w (Ret (.int .i64 ((s.toNat.testBit k.toNat).toNat : Nat)) w) := by
  obtain ⟨s, rfl⟩ := Int.eq_ofNat_of_zero_le hs0
  obtain ⟨k, rfl⟩ := Int.eq_ofNat_of_zero_le hk0
  rw [Int.toNat_natCast, Int.toNat_natCast]
  go_enter Try.func90, Try.ntmps90
  go_wp2
  go_ret
  exact ⟨ret_int (tmod_bit s k), rfl⟩

theorem c_stateOk (s : Int) (w : World) :
    Calls Try.prog 87 #[.int .i64 s] w (Ret (.bool (Sp.stOk s)) w) := by
  by_cases h : 0 ≤ s
  · go_enter Try.func87, Try.ntmps87
    go_wp2
    go_ret
    exact ⟨ret_bool (by simp [h, Sp.stOk]; omega), rfl⟩
  · go_enter Try.func87, Try.ntmps87
    go_wp2
    go_ret
    exact ⟨ret_bool (by simp [Sp.stOk]; omega), rfl⟩

theorem c_l1In_st (s : Int) (w : World) :
    Calls Try.prog 95 #[.int .i64 s, .int .i64 0, .int .i64 31] w (Ret (.bool (Sp.stOk s)) w) :=
  (c_l1In s 0 31 w).mono fun _ _ h => h

theorem c_countBits (s : Int) (w : World) (hs0 : 0 ≤ s) (hs : s ≤ 4611686018427387904) :
    Calls Try.prog 106 #[.int .i64 s] w (Ret (.int .i64 (cnt s.toNat)) w) := by
  obtain ⟨s, rfl⟩ := Int.eq_ofNat_of_zero_le hs0
  rw [Int.toNat_natCast]
  go_enter Try.func106, Try.ntmps106
  go_wp2
  go_loop [0, 3] (fun v m => ∃ (t c : Nat), v = .int .i64 t ∧ m = .int .i64 c ∧ t ≤ s ∧ c ≤ 64 ∧ Hid (c + cnt t = cnt s)) (fun v _ => (intOf v).toNat)
  case atStart => exact ⟨s, 0, rfl, rfl, Nat.le_refl _, by omega, by show 0 + cnt s = cnt s; omega⟩
  case round =>
    obtain ⟨t, c, rfl, rfl, ht, hc, HC⟩ := hrel
    by_cases h0 : t = 0
    · subst h0
      have HE : Hid (c = cnt s) := by have := HC.out; rw [cnt_zero] at this; show c = cnt s; omega
      go_wp2
      go_ret
      exact ⟨ret_int (by rw [HE.out]), rfl⟩
    · have hp := cnt_pred t (by omega) (by omega)
      have hle := cnt_le s
      have HE : Hid (c + 1 + cnt (t &&& (t - 1)) = cnt s) := by have := HC.out; show c + 1 + cnt (t &&& (t - 1)) = cnt s; omega
      have hc2 : c + 1 ≤ 64 := by have := HE.out; omega
      clear hp HC hle
      have hb : bits .and .i64 (t : Int) ((t : Int) - 1) = ((t &&& (t - 1) : Nat) : Int) := by
        have := i64_and_nat t (t - 1) (by omega) (by omega)
        rwa [show (((t - 1 : Nat)) : Int) = (t : Int) - 1 by omega] at this
      have hlt : t &&& (t - 1) ≤ t - 1 := Nat.and_le_right
      have hne : ((t : Int) == 0) = false := by simp; omega
      have hne' : ((t : Int) != 0) = true := by simp; omega
      go_wp2
      exact ⟨⟨t &&& (t - 1), c + 1, rfl, by go_num, by omega, by omega, HE⟩, by simp [intOf]; omega⟩

theorem c_l1Many (s : Int) (w : World) (hs0 : 0 ≤ s) (hs : s ≤ 4611686018427387904) :
    Calls Try.prog 124 #[.int .i64 s] w (Ret (.int .i64 (cnt s.toNat)) w) := by
  obtain ⟨s, rfl⟩ := Int.eq_ofNat_of_zero_le hs0
  rw [Int.toNat_natCast]
  go_enter Try.func124, Try.ntmps124
  go_wp2
  go_loop [0, 3] (fun v m => ∃ (t c : Nat), v = .int .i64 t ∧ m = .int .i64 c ∧ t ≤ s ∧ c ≤ 64 ∧ Hid (c + cnt t = cnt s)) (fun v _ => (intOf v).toNat)
  case atStart => exact ⟨s, 0, rfl, rfl, Nat.le_refl _, by omega, by show 0 + cnt s = cnt s; omega⟩
  case round =>
    obtain ⟨t, c, rfl, rfl, ht, hc, HC⟩ := hrel
    by_cases h0 : t = 0
    · subst h0
      have HE : Hid (c = cnt s) := by have := HC.out; rw [cnt_zero] at this; show c = cnt s; omega
      go_wp2
      go_ret
      exact ⟨ret_int (by rw [HE.out]), rfl⟩
    · have hp := cnt_half t (by omega)
      have hle := cnt_le s
      have HE : Hid (c + t % 2 + cnt (t / 2) = cnt s) := by have := HC.out; show c + t % 2 + cnt (t / 2) = cnt s; omega
      have hc2 : c + t % 2 ≤ 64 := by have := HE.out; omega
      clear hp HC hle
      go_wp2
      exact ⟨⟨t / 2, c + t % 2, by go_num, by go_num, by omega, by omega, HE⟩, by simp [intOf]; omega⟩

theorem c_l1Both (a b : Int) (w : World) (ha0 : 0 ≤ a) (ha : a < 4611686018427387904) (hb0 : 0 ≤ b) (hb : b < 4611686018427387904) :
    Calls Try.prog 103 #[.int .i64 a, .int .i64 b] w (Ret (.int .i64 ((a.toNat &&& b.toNat : Nat) : Int)) w) := by
  obtain ⟨a, rfl⟩ := Int.eq_ofNat_of_zero_le ha0
  obtain ⟨b, rfl⟩ := Int.eq_ofNat_of_zero_le hb0
  rw [Int.toNat_natCast, Int.toNat_natCast]
  go_enter Try.func103, Try.ntmps103
  go_wp2
  go_loop [5, 6] (fun o i => ∃ (k : Nat), k ≤ 62 ∧ i = .int .i64 k ∧ o = .int .i64 (low a b k)) (fun _ i => 62 - (intOf i).toNat)
  case atStart => exact ⟨0, by omega, rfl, by rw [low_zero]; rfl⟩
  case round =>
    obtain ⟨k, hk, rfl, rfl⟩ := hrel
    have hsh := bin_shl_one k hk
    have hbd := p2_62 k hk
    by_cases h1 : p2 k ≤ (a : Int)
    · by_cases h2 : p2 k ≤ (b : Int)
      · have hk' : k < 62 := by
          rcases Nat.lt_or_ge k 62 with h | h
          · exact h
          · exfalso
            have e : k = 62 := by omega
            subst e
            have := p2_nat 62
            omega
        have HS := Lib.hid (low_succ a b k)
        have HB := Lib.hid (low_lt a b k)
        have HP := Lib.hid (p2_nat k)
        have hl0 : (low a b k : Int) < p2 k := by rw [HP.out]; exact_mod_cast HB.out
        go_wp2_with (first | (go_at_call 90; refine (c_l1Bit _ _ _ (by omega) (by omega) (by omega) (by omega)).mono ?_; rintro e w' ⟨rfl, rfl⟩))
        exact ⟨⟨k + 1, by omega, by go_num, by rw [low_step a b k hk']⟩, by simp [intOf]; omega⟩
      · have HE : Hid (low a b k = a &&& b) := low_all a b k (.inr (by have := p2_nat k; omega))
        go_wp2
        go_ret
        exact ⟨ret_int (by rw [HE.out]), rfl⟩
    · have HE : Hid (low a b k = a &&& b) := low_all a b k (.inl (by have := p2_nat k; omega))
      go_wp2
      go_ret
      exact ⟨ret_int (by rw [HE.out]), rfl⟩

theorem c_l1Either (a b : Int) (w : World) (ha0 : 0 ≤ a) (ha : a < 4611686018427387904) (hb0 : 0 ≤ b) (hb : b < 4611686018427387904) :
    Calls Try.prog 78 #[.int .i64 a, .int .i64 b] w (Ret (.int .i64 ((a.toNat ||| b.toNat : Nat) : Int)) w) := by
  obtain ⟨a, rfl⟩ := Int.eq_ofNat_of_zero_le ha0
  obtain ⟨b, rfl⟩ := Int.eq_ofNat_of_zero_le hb0
  rw [Int.toNat_natCast, Int.toNat_natCast]
  have HE := Lib.hid (or_sum a b)
  have hle : a &&& b ≤ a := Nat.and_le_left
  go_enter Try.func78, Try.ntmps78
  go_wp2_with fail
  refine (c_l1Both _ _ _ (by omega) (by omega) (by omega) (by omega)).mono ?_; rintro e w' ⟨rfl, rfl⟩
  rw [Int.toNat_natCast, Int.toNat_natCast]
  go_wp2
  go_ret
  exact ⟨ret_int (by have := HE.out; omega), rfl⟩

theorem c_l1Other (a b : Int) (w : World) (ha0 : 0 ≤ a) (ha : a < 4611686018427387904) (hb0 : 0 ≤ b) (hb : b < 4611686018427387904) :
    Calls Try.prog 119 #[.int .i64 a, .int .i64 b] w (Ret (.int .i64 ((a.toNat ^^^ b.toNat : Nat) : Int)) w) := by
  obtain ⟨a, rfl⟩ := Int.eq_ofNat_of_zero_le ha0
  obtain ⟨b, rfl⟩ := Int.eq_ofNat_of_zero_le hb0
  rw [Int.toNat_natCast, Int.toNat_natCast]
  have HE := Lib.hid (xor_sum a b)
  have hle : a &&& b ≤ a := Nat.and_le_left
  go_enter Try.func119, Try.ntmps119
  go_wp2_with fail
  refine (c_l1Both _ _ _ (by omega) (by omega) (by omega) (by omega)).mono ?_; rintro e w' ⟨rfl, rfl⟩
  rw [Int.toNat_natCast, Int.toNat_natCast]
  go_wp2
  go_ret
  exact ⟨ret_int (by have := HE.out; omega), rfl⟩

end Go.Proofs.Ythkcdjnnacdeoaa
