/- Walks: SumFor. No condition. -/
import Derived.Test.YtjmpfemlihjibaaDoorR6
namespace Go.Proofs.YtjmpfemlihjibaaDoor
open Go.RowKit

def Sp.sumFor (t : Sp.Task) : Option Nat := (List.range 32).find? (fun f => Sp.sumOk t (f : Nat))
def Sp.sumForN (t : Sp.Task) : Int := match Sp.sumFor t with | some f => (f : Nat) | none => -1
def Sp.sumForB (t : Sp.Task) : Bool := (Sp.sumFor t).isSome

theorem find_first {p : Nat → Bool} {n k : Nat} (hk : k < n) (h : p k = true) (hb : ∀ j, j < k → p j = false) : (List.range n).find? p = some k := by
  cases hf : (List.range n).find? p with
  | none =>
    have := List.find?_eq_none.1 hf k (List.mem_range.2 hk)
    simp [h] at this
  | some m =>
    have h1 := List.find?_some hf
    congr 1
    rcases Nat.lt_trichotomy m k with h2 | h2 | h2
    · rw [hb m h2] at h1; cases h1
    · exact h2
    · exfalso
      rw [List.find?_range_eq_some] at hf
      have := hf.2.2 k h2
      rw [h] at this; simp at this
theorem find_none {p : Nat → Bool} {n : Nat} (hb : ∀ j, j < n → p j = false) : (List.range n).find? p = none := by
  rw [List.find?_eq_none]
  intro j hj
  rw [hb j (List.mem_range.1 hj)]; decide

theorem sumFor_yes {t : Sp.Task} {k : Nat} (hk : k < 32) (h : Sp.sumOk t (k : Nat) = true) (hb : ∀ j : Nat, j < k → Sp.sumOk t (j : Nat) = false) : Sp.sumForN t = k ∧ Sp.sumForB t = true := by
  unfold Sp.sumForN Sp.sumForB Sp.sumFor
  rw [find_first (p := fun f => Sp.sumOk t (f : Nat)) hk h hb]
  exact ⟨rfl, rfl⟩
theorem sumFor_no {t : Sp.Task} (hb : ∀ j : Nat, j < 32 → Sp.sumOk t (j : Nat) = false) : Sp.sumForN t = -1 ∧ Sp.sumForB t = false := by
  unfold Sp.sumForN Sp.sumForB Sp.sumFor
  rw [find_none (p := fun f => Sp.sumOk t (f : Nat)) hb]
  exact ⟨rfl, rfl⟩

theorem c_sSumFor (v : Value) (t : Sp.Task) (w : World) (h : TaskV w v t) : Calls Tryd.prog 76 #[v] w (RetK (.tuple #[.int .i64 (Sp.sumForN t), .bool (Sp.sumForB t)]) w) := by
  obtain ⟨A, n, c, A', n', c', rfl⟩ := h.form
  have hk0 := (Kept.refl w).alloc (.cells #[.int .i64 t.start, .slice A n c, .slice A' n' c'] 30)
  have B0 := Blk.new w 30 #[.int .i64 t.start, .slice A n c, .slice A' n' c']
  go_enter Tryd.func76, Tryd.ntmps76
  go_wp2_with fail
  go_loopw [4] (fun i wr => ∃ k : Nat, k ≤ 32 ∧ i = .int .i64 k ∧ Kept w wr ∧ Blk wr w.heap.size 30 #[.int .i64 t.start, .slice A n c, .slice A' n' c'] ∧ Hid (∀ j : Nat, j < k → Sp.sumOk t (j : Nat) = false)) (fun i _ => 32 - (intOf i).toNat)
  case atStart => exact ⟨0, by omega, rfl, hk0, B0, by show ∀ j : Nat, j < 0 → _; omega⟩
  case round =>
    obtain ⟨k, hk, rfl, hkp, hB, HA⟩ := hrel
    have c0 := hB.cell
    by_cases hlt : k < 32
    · cases hev : Sp.sumOk t (k : Nat)
      · have HV := Lib.hid hev
        clear hev
        go_wp2_with fail
        refine (c_sSumOk _ t _ _ (h.keep hkp)).mono ?_; rintro e w2 ⟨rfl, hk2⟩
        rw [HV.out]
        go_wp2_with fail
        refine ⟨⟨k + 1, by omega, by go_num, hkp.trans hk2, hB.kept hk2, ?_⟩, by simp [intOf]; omega⟩
        intro j hj
        by_cases e : j = k
        · subst e; exact HV.out
        · exact HA.out j (by omega)
      · have HV := Lib.hid hev
        have HX := Lib.hid (sumFor_yes hlt hev HA.out)
        clear hev
        go_wp2_with fail
        refine (c_sSumOk _ t _ _ (h.keep hkp)).mono ?_; rintro e w2 ⟨rfl, hk2⟩
        rw [HV.out]
        go_wp2_with fail
        go_ret2
        exact ⟨by rw [HX.out.1, HX.out.2]; rfl, hkp.trans hk2⟩
    · obtain rfl : k = 32 := by omega
      have HX := Lib.hid (sumFor_no HA.out)
      go_wp2_with fail
      go_ret2
      exact ⟨by rw [HX.out.1, HX.out.2]; rfl, hkp⟩

end Go.Proofs.YtjmpfemlihjibaaDoor
