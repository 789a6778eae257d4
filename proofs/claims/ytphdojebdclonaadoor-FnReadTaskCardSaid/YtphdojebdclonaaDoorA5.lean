/- Walks: the law's own equality of lists; CodeRun of the program. No condition. -/
import Derived.Test.YtphdojebdclonaaDoorA1
import Derived.Test.YtphdojebdclonaaDoorG12
import Derived.Test.YtphdojebdclonaaDoorR5
namespace Go.Proofs.YtphdojebdclonaaDoor
set_option linter.unusedSimpArgs false
set_option linter.unusedVariables false
open Go.RowKit

theorem c_lsameInts (A A' : Option Addr) (n n' c c' : Nat) (l l' : List Int) (w : World) (h : Ints w A n l) (h' : Ints w A' n' l') (he : l = l') :
    Calls Tryd.prog 84 #[.slice A n c, .slice A' n' c'] w (RetK (.bool true) w) := by
  subst he
  obtain rfl : n = n' := h.len.symm.trans h'.len
  have hn := h.le
  go_enter Tryd.func84, Tryd.ntmps84
  go_wp2_with fail
  go_loopw [5] (fun i wr => ∃ k : Nat, k ≤ n ∧ i = .int .i64 k ∧ Kept w wr) (fun i _ => n - (intOf i).toNat)
  case atStart => exact ⟨0, Nat.zero_le _, rfl, Kept.refl _⟩
  case round =>
    obtain ⟨k, hk, rfl, hkp⟩ := hrel
    by_cases hlt : k < n
    · obtain ⟨b, off, rfl, hb, hc, _⟩ := (h.keep hkp).at hlt
      obtain ⟨b', off', rfl, hb', hc', _⟩ := (h'.keep hkp).at hlt
      generalize l.getD k default = x at *
      have hlt' : (k : Int) < (n : Int) := by omega
      have hk0 : (0 : Int) ≤ (k : Int) := by omega
      go_wp2_with fail
      go_quiet (fail)
      go_wp2_with fail
      exact ⟨⟨k + 1, by omega, by go_num, hkp.drewN _⟩, by simp [intOf]; omega⟩
    · go_wp2_with fail
      go_ret
      exact ⟨rfl, hkp⟩

















/-- what a call gave, where it is a list of 32 -/
theorem outInts_row {w w' : World} {l : List Int} {v : Value} (h : OutInts w l v w') (hl : l.length = 32) : ∃ g c, v = .slice (some ⟨g, 0, none⟩) 32 c ∧ w.heap.size ≤ g ∧ Own w' g 32 l := by
  obtain ⟨A, c, rfl, h1, h2⟩ := h
  obtain ⟨g, rfl, h3, _, h4⟩ := h2 (by omega)
  rw [hl] at h4 ⊢
  exact ⟨g, c, rfl, h3, h4⟩
theorem Own.dist {w : World} {g : Nat} {rel : Nat → Nat → Bool} {S : Nat} (h : Own w g 32 (Sp.distList rel S)) : IntRow w g 32 (Sp.dist rel S) := by
  have := h.row (by omega)
  exact this.congr fun s hs => distList_at _ _ s hs
theorem stepsLeast_ok {t : Sp.Task} (h : Sp.taskOk t = true) : Sp.stepsLeast t = Sp.distList (Sp.relB t) (Sp.truth t.goal) := by unfold Sp.stepsLeast; rw [if_pos h]
theorem stepsLeast_no {t : Sp.Task} (h : Sp.taskOk t = false) : Sp.stepsLeast t = [] := by unfold Sp.stepsLeast; rw [h]; rfl
theorem stepsFrom_ok {t : Sp.Task} (h : Sp.taskOk t = true) : Sp.stepsFrom t = Sp.distList (Sp.rel t) (2 ^ t.start.toNat) := by unfold Sp.stepsFrom; rw [if_pos h]
theorem stepsFrom_no {t : Sp.Task} (h : Sp.taskOk t = false) : Sp.stepsFrom t = [] := by unfold Sp.stepsFrom; rw [h]; rfl
theorem Own.toGo {w : World} {g : Nat} {t : Sp.Task} (h : Sp.taskOk t = true) (ho : Own w g 32 (Sp.stepsLeast t)) : IntRow w g 32 (Sp.dist (Sp.relB t) (Sp.truth t.goal)) := by
  rw [stepsLeast_ok h] at ho
  exact ho.dist

end Go.Proofs.YtphdojebdclonaaDoor
