/- Joined texts. No condition. -/
import Derived.Test.YtphdojebdclonaaGreatDoorQ11
/- Letters read: both. -/
namespace Go.Proofs.YtphdojebdclonaaGreatDoor
set_option linter.unusedSimpArgs false
set_option linter.unusedVariables false
open Go.RowKit

/-- the set that letters tell, or -1 -/
def Sp.readSet (s : List UInt8) : Int := match (List.range 32).find? (fun k : Nat => Sp.letters (k : Int) == s) with | some k => (k : Int) | none => -1
theorem letters_inj : ∀ a b : Fin 32, Sp.letters ((a.val : Nat) : Int) = Sp.letters ((b.val : Nat) : Int) → a = b := by decide +kernel
theorem readSet_some {s : List UInt8} {k : Nat} (hk : k < 32) (h : Sp.letters (k : Int) = s) : Sp.readSet s = (k : Int) := by
  unfold Sp.readSet
  cases hf : (List.range 32).find? (fun k : Nat => Sp.letters (k : Int) == s) with
  | none =>
    have := List.find?_eq_none.1 hf k (List.mem_range.2 hk)
    simp [h] at this
  | some m =>
    have h1 := List.find?_some hf
    have h2 := List.mem_range.1 (List.mem_of_find?_eq_some hf)
    simp only [beq_iff_eq] at h1
    have := letters_inj ⟨m, h2⟩ ⟨k, hk⟩ (by rw [h1]; exact h.symm)
    simp only [Fin.mk.injEq] at this
    simp [this]
theorem readSet_none {s : List UInt8} (h : ∀ k : Nat, k < 32 → Sp.letters (k : Int) ≠ s) : Sp.readSet s = -1 := by
  unfold Sp.readSet
  cases hf : (List.range 32).find? (fun k : Nat => Sp.letters (k : Int) == s) with
  | none => rfl
  | some m =>
    have h1 := List.find?_some hf
    have h2 := List.mem_range.1 (List.mem_of_find?_eq_some hf)
    simp only [beq_iff_eq] at h1
    exact absurd h1 (h m h2)
theorem readSet_letters {x : Int} (h0 : 0 ≤ x) (h1 : x ≤ 31) : Sp.readSet (Sp.letters x) = x := by
  obtain ⟨k, rfl⟩ := Int.eq_ofNat_of_zero_le h0
  exact readSet_some (by omega) rfl
theorem readSet_bd (s : List UInt8) : -1 ≤ Sp.readSet s ∧ Sp.readSet s ≤ 31 := by
  unfold Sp.readSet
  cases hf : (List.range 32).find? (fun k : Nat => Sp.letters (k : Int) == s) with
  | none => simp
  | some m =>
    have h2 := List.mem_range.1 (List.mem_of_find?_eq_some hf)
    simp only; omega

def Sp.readSetV (s : List UInt8) : Int := if Sp.readSet s = -1 then 0 else Sp.readSet s
def Sp.readSetB (s : List UInt8) : Bool := decide (Sp.readSet s ≠ -1)

set_option maxHeartbeats 1000000 in
set_option maxRecDepth 100000 in
theorem c_l6Set (s : List UInt8) (w : World) : Calls Tryz.prog 57 #[.string ⟨s.toArray⟩] w (RetK (.int .i64 (Sp.readSet s)) w) := by
  go_enter Tryz.func57, Tryz.ntmps57
  go_wp2_with fail
  go_loopw [3] (fun i wr => ∃ k : Nat, k ≤ 32 ∧ i = .int .i64 k ∧ Hid (∀ j : Nat, j < k → Sp.letters (j : Int) ≠ s) ∧ Kept w wr) (fun i _ => 32 - (intOf i).toNat)
  case atStart => exact ⟨0, Nat.zero_le _, rfl, fun j hj => by omega, Kept.refl _⟩
  case round =>
    obtain ⟨k, hk, rfl, HN, hkp⟩ := hrel
    by_cases hlt : k < 32
    · go_wp2_with fail
      refine (c_sLetters (k : Int) _ (by omega) (by omega)).mono ?_; rintro e w2 ⟨rfl, hk2⟩
      by_cases he : Sp.letters (k : Int) = s
      · have HR := Lib.hid (readSet_some hlt he)
        rw [he]
        clear he
        go_wp2_with fail
        go_ret
        exact ⟨by rw [HR.out]; rfl, hkp.trans hk2⟩
      · have HN2 : Hid (∀ j : Nat, j < k + 1 → Sp.letters (j : Int) ≠ s) := fun j hj => by
          by_cases e : j = k
          · subst e; exact he
          · exact HN.out j (by omega)
        generalize Sp.letters (k : Int) = lk at *
        have hf : (lk == s) = false := beq_eq_false_iff_ne.2 he
        clear he
        go_wp2_with fail
        exact ⟨⟨k + 1, by omega, by go_num, HN2, hkp.trans hk2⟩, by simp [intOf]; omega⟩
    · obtain rfl : k = 32 := by omega
      have HR := Lib.hid (readSet_none HN.out)
      go_wp2_with fail
      go_ret
      exact ⟨by rw [HR.out]; rfl, hkp⟩

set_option maxHeartbeats 1000000 in
set_option maxRecDepth 100000 in
theorem c_readLetters (s : List UInt8) (w : World) : Calls Tryz.prog 47 #[.string ⟨s.toArray⟩] w (RetK (.tuple #[.int .i64 (Sp.readSetV s), .bool (Sp.readSetB s)]) w) := by
  go_enter Tryz.func47, Tryz.ntmps47
  go_wp2_with fail
  go_loopw [4, 5] (fun _ i wr => ∃ k : Nat, k ≤ 32 ∧ i = .int .i64 k ∧ Hid (∀ j : Nat, j < k → Sp.letters (j : Int) ≠ s) ∧ Kept w wr) (fun _ i _ => 32 - (intOf i).toNat)
  case atStart => exact ⟨0, Nat.zero_le _, rfl, fun j hj => by omega, Kept.refl _⟩
  case round =>
    obtain ⟨k, hk, rfl, HN, hkp⟩ := hrel
    by_cases hlt : k < 32
    · go_wp2_with fail
      refine (c_iLetters (k : Int) _ (by omega) (by omega)).mono ?_; rintro e w2 ⟨rfl, hk2⟩
      by_cases he : Sp.letters (k : Int) = s
      · have HR := Lib.hid (readSet_some hlt he)
        have HV : Hid (Sp.readSetV s = (k : Int)) := by show _ = _; unfold Sp.readSetV; rw [HR.out, if_neg (by omega)]
        have HB : Hid (Sp.readSetB s = true) := by show _ = _; unfold Sp.readSetB; rw [HR.out]; exact decide_eq_true (by omega)
        rw [he]
        clear he
        go_wp2_with fail
        go_ret2
        exact ⟨by rw [HV.out, HB.out]; rfl, hkp.trans hk2⟩
      · have HN2 : Hid (∀ j : Nat, j < k + 1 → Sp.letters (j : Int) ≠ s) := fun j hj => by
          by_cases e : j = k
          · subst e; exact he
          · exact HN.out j (by omega)
        generalize Sp.letters (k : Int) = lk at *
        have hf : (lk == s) = false := beq_eq_false_iff_ne.2 he
        clear he
        go_wp2_with fail
        exact ⟨⟨k + 1, by omega, by go_num, HN2, hkp.trans hk2⟩, by simp [intOf]; omega⟩
    · obtain rfl : k = 32 := by omega
      have HR := Lib.hid (readSet_none HN.out)
      go_wp2_with fail
      go_ret2
      exact ⟨by unfold Sp.readSetV Sp.readSetB; rw [HR.out]; rfl, hkp⟩

end Go.Proofs.YtphdojebdclonaaGreatDoor
