/- Walks: CodeTruth, GoalOne. No condition. -/
import Derived.Test.YthkcdjnnacdeoaaR2
namespace Go.Proofs.Ythkcdjnnacdeoaa
open Go.RowKit

def Sp.codeTruth (l : List Int) : Int := if Sp.codeOk l = true then (Sp.truth l : Nat) else -1

theorem c_sCodeTruth (A : Option Addr) (n c : Nat) (l : List Int) (w : World) (h : Ints w A n l) :
    Calls Try.prog 77 #[.slice A n c] w (RetK (.int .i64 (Sp.codeTruth l)) w) := by
  cases hok : Sp.codeOk l
  · have HE : Hid (Sp.codeTruth l = -1) := by show _ = _; unfold Sp.codeTruth; rw [if_neg (by simp [hok])]
    have HO := Lib.hid hok
    clear hok
    go_enter Try.func77, Try.ntmps77
    go_wp2_with fail
    refine (c_sCodeValid _ _ _ _ _ h).mono ?_; rintro e w2 ⟨rfl, rfl⟩
    rw [HO.out]
    go_wp2_with fail
    go_ret
    exact ⟨ret_int HE.out.symm, Kept.refl _⟩
  · have HE : Hid (Sp.codeTruth l = (Sp.truth l : Nat)) := by show _ = _; unfold Sp.codeTruth; rw [if_pos hok]
    have HO := Lib.hid hok
    clear hok
    go_enter Try.func77, Try.ntmps77
    go_wp2_with fail
    refine (c_sCodeValid _ _ _ _ _ h).mono ?_; rintro e w2 ⟨rfl, rfl⟩
    rw [HO.out]
    go_wp2_with fail
    go_loopw [3, 4] (fun x i wr => ∃ k : Nat, k ≤ 32 ∧ i = .int .i64 k ∧ x = .int .i64 (Sp.setOf k (Sp.run l)) ∧ Kept w wr) (fun _ i _ => 32 - (intOf i).toNat)
    case atStart => exact ⟨0, by omega, rfl, rfl, Kept.refl _⟩
    case round =>
      obtain ⟨k, hk, rfl, rfl, hkp⟩ := hrel
      by_cases hlt : k < 32
      · have hbd := setOf_bd k (Sp.run l) hk
        have hsh := bin_shl_one k (by omega)
        obtain ⟨hp1, hp2⟩ := p2_bd32 k hk
        have HH := Lib.hid (setOf_step k (Sp.run l) hlt)
        cases hev : Sp.run l k
        all_goals
          have HE2 := Lib.hid hev
          clear hev
          go_wp2_with fail
          refine (c_l5Run _ _ _ _ _ _ (h.keep hkp) HO.out (by omega) (by omega)).mono ?_; rintro e w2 ⟨rfl, hk2⟩
          rw [Int.toNat_natCast, HE2.out]
          go_wp2_with fail
        · exact ⟨⟨k + 1, by omega, by go_num, by rw [HH.out.2.2 HE2.out], hkp.trans hk2⟩, by simp [intOf]; omega⟩
        · exact ⟨⟨k + 1, by omega, by go_num, by rw [HH.out.1 HE2.out], hkp.trans hk2⟩, by simp [intOf]; omega⟩
      · obtain rfl : k = 32 := by omega
        go_wp2_with fail
        go_ret
        exact ⟨ret_int HE.out.symm, hkp⟩

theorem c_iCodeTruth (A : Option Addr) (n c : Nat) (l : List Int) (w : World) (h : Ints w A n l) :
    Calls Try.prog 21 #[.slice A n c] w (RetK (.int .i64 (Sp.codeTruth l)) w) := by
  cases hok : Sp.codeOk l
  · have HE : Hid (Sp.codeTruth l = -1) := by show _ = _; unfold Sp.codeTruth; rw [if_neg (by simp [hok])]
    have HO := Lib.hid hok
    clear hok
    go_enter Try.func21, Try.ntmps21
    go_wp2_with fail
    refine (c_iCodeValid _ _ _ _ _ h).mono ?_; rintro e w2 ⟨rfl, rfl⟩
    rw [HO.out]
    go_wp2_with fail
    go_ret
    exact ⟨ret_int HE.out.symm, Kept.refl _⟩
  · have HE : Hid (Sp.codeTruth l = (Sp.truth l : Nat)) := by show _ = _; unfold Sp.codeTruth; rw [if_pos hok]
    have HO := Lib.hid hok
    clear hok
    go_enter Try.func21, Try.ntmps21
    go_wp2_with fail
    refine (c_iCodeValid _ _ _ _ _ h).mono ?_; rintro e w2 ⟨rfl, rfl⟩
    rw [HO.out]
    go_wp2_with fail
    go_loopw [3, 8] (fun x i wr => ∃ k : Nat, k ≤ 32 ∧ i = .int .i64 k ∧ x = .int .i64 (Sp.setOf k (Sp.run l)) ∧ Kept w wr) (fun _ i _ => 32 - (intOf i).toNat)
    case atStart => exact ⟨0, by omega, rfl, rfl, Kept.refl _⟩
    case round =>
      obtain ⟨k, hk, rfl, rfl, hkp⟩ := hrel
      by_cases hlt : k < 32
      · have hbd := setOf_bd k (Sp.run l) hk
        have hsh := bin_shl_one k (by omega)
        have hor := or_p2 _ k hbd hlt
        have HH := Lib.hid (setOf_step k (Sp.run l) hlt)
        cases hev : Sp.run l k
        all_goals
          have HE2 := Lib.hid hev
          clear hev
          go_wp2_with fail
          refine (c_runCode _ _ _ _ _ _ (h.keep hkp) HO.out (by omega) (by omega)).mono ?_; rintro e w2 ⟨rfl, hk2⟩
          rw [Int.toNat_natCast, HE2.out]
          go_wp2_with fail
        · exact ⟨⟨k + 1, by omega, by go_num, by rw [HH.out.2.2 HE2.out], hkp.trans hk2⟩, by simp [intOf]; omega⟩
        · exact ⟨⟨k + 1, by omega, by go_num, by rw [HH.out.2.1 HE2.out], hkp.trans hk2⟩, by simp [intOf]; omega⟩
      · obtain rfl : k = 32 := by omega
        go_wp2_with fail
        go_ret
        exact ⟨ret_int HE.out.symm, hkp⟩

/-! the only end -/

def Sp.oneOf (f : Nat → Bool) : Int := match (List.range 32).find? (fun s => Sp.setOf 32 f == 2 ^ s) with | some s => s | none => -1
def Sp.goalOne (t : Sp.Task) : Int := if Sp.taskOk t = true then Sp.oneOf (Sp.run t.goal) else -1

theorem one_yes {f : Nat → Bool} {k : Nat} (hk : k < 32) (h : Sp.setOf 32 f = 2 ^ k) : Sp.oneOf f = k := by
  unfold Sp.oneOf
  cases hf : (List.range 32).find? (fun s => Sp.setOf 32 f == 2 ^ s) with
  | none =>
    have := List.find?_eq_none.1 hf k (List.mem_range.2 hk)
    simp [h] at this
  | some s =>
    have h1 := List.find?_some hf
    simp only [beq_iff_eq] at h1
    rw [h] at h1
    have := (Nat.pow_right_inj (by decide)).1 h1
    simp only
    omega

theorem one_no {f : Nat → Bool} (h : ∀ k, k < 32 → Sp.setOf 32 f ≠ 2 ^ k) : Sp.oneOf f = -1 := by
  unfold Sp.oneOf
  cases hf : (List.range 32).find? (fun s => Sp.setOf 32 f == 2 ^ s) with
  | none => rfl
  | some s =>
    have h1 := List.find?_some hf
    simp only [beq_iff_eq] at h1
    exact absurd h1 (h s (List.mem_range.1 (List.mem_of_find?_eq_some hf)))

theorem one_bit {f : Nat → Bool} {k : Nat} (h : Sp.setOf 32 f = 2 ^ k) (s : Nat) (hs : s < 32) : f s = decide (k = s) := by
  have := Sp.testBit_setOf 32 f s
  rw [h, Nat.testBit_two_pow] at this
  simp only [hs, decide_true, Bool.true_and] at this
  exact this.symm

theorem one_only {f : Nat → Bool} {k : Nat} (hk : k < 32) (h1 : f k = true) (h2 : ∀ s, s < 32 → s ≠ k → f s = false) : Sp.oneOf f = k := by
  refine one_yes hk (Nat.eq_of_testBit_eq fun s => ?_)
  rw [Sp.testBit_setOf, Nat.testBit_two_pow]
  by_cases hs : s < 32
  · by_cases e : k = s
    · subst e; simp [hk, h1]
    · simp [hs, e, h2 s hs (fun e' => e e'.symm)]
  · have : k ≠ s := by omega
    simp [hs, this]

theorem one_two {f : Nat → Bool} {a b : Nat} (ha : a < 32) (hb : b < 32) (hab : a ≠ b) (h1 : f a = true) (h2 : f b = true) : Sp.oneOf f = -1 := by
  refine one_no fun k _ h => ?_
  have e1 := one_bit h a ha
  have e2 := one_bit h b hb
  rw [h1] at e1
  rw [h2] at e2
  have e1 := of_decide_eq_true e1.symm
  have e2 := of_decide_eq_true e2.symm
  omega

theorem one_none {f : Nat → Bool} (h : ∀ s, s < 32 → f s = false) : Sp.oneOf f = -1 := by
  refine one_no fun k hk h2 => ?_
  have := one_bit h2 k hk
  rw [h k hk] at this
  simp at this

end Go.Proofs.Ythkcdjnnacdeoaa
