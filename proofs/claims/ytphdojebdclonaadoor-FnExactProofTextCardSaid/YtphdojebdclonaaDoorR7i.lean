/- Walks: the program's SumFor. No condition. -/
import Derived.Test.YtphdojebdclonaaDoorR7
import Derived.Test.YtphdojebdclonaaDoorR6i
namespace Go.Proofs.YtphdojebdclonaaDoor
set_option linter.unusedSimpArgs false
set_option linter.unusedVariables false
open Go.RowKit

theorem c_iSumFor (v : Value) (t : Sp.Task) (w : World) (h : TaskV w v t) : Calls Tryd.prog 98 #[v] w (RetK (.tuple #[.int .i64 (Sp.sumForN t), .bool (Sp.sumForB t)]) w) := by
  obtain ⟨A, n, c, A', n', c', rfl⟩ := h.form
  have hk0 := (Kept.refl w).alloc (.cells #[.int .i64 t.start, .slice A n c, .slice A' n' c'] 26)
  have B0 := Blk.new w 26 #[.int .i64 t.start, .slice A n c, .slice A' n' c']
  go_enter Tryd.func98, Tryd.ntmps98
  go_wp2_with fail
  go_loopw [5] (fun i wr => ∃ k : Nat, k ≤ 32 ∧ i = .int .i64 k ∧ Kept w wr ∧ Blk wr w.heap.size 26 #[.int .i64 t.start, .slice A n c, .slice A' n' c'] ∧ Hid (∀ j : Nat, j < k → Sp.sumOk t (j : Nat) = false)) (fun i _ => 32 - (intOf i).toNat)
  case atStart => exact ⟨0, by omega, rfl, hk0, B0, by show ∀ j : Nat, j < 0 → _; omega⟩
  case round =>
    obtain ⟨k, hk, rfl, hkp, hB, HA⟩ := hrel
    have c0 := hB.cell
    by_cases hlt : k < 32
    · cases hev : Sp.sumOk t (k : Nat)
      · have HV := Lib.hid hev
        clear hev
        go_wp2_with fail
        refine (c_iSumOk _ t _ _ (h.keep hkp)).mono ?_; rintro e w2 ⟨rfl, hk2⟩
        rw [HV.out]
        go_wp2_with fail
        refine ⟨⟨k + 1, by omega, by go_num, hkp.trans hk2, hB.kept hk2, ?_⟩, by simp [intOf]; omega⟩
        intro j hj
        by_cases e : j = k
        · subst e; exact HV.out
        · exact HA.out j (by omega)
      · have HV := Lib.hid hev
        have HX := Lib.hid (sumFor_yes hlt hev HA.out)
        clear hev
        go_wp2_with fail
        refine (c_iSumOk _ t _ _ (h.keep hkp)).mono ?_; rintro e w2 ⟨rfl, hk2⟩
        rw [HV.out]
        go_wp2_with fail
        go_ret2
        exact ⟨by rw [HX.out.1, HX.out.2]; rfl, hkp.trans hk2⟩
    · obtain rfl : k = 32 := by omega
      have HX := Lib.hid (sumFor_no HA.out)
      go_wp2_with fail
      go_ret2
      exact ⟨by rw [HX.out.1, HX.out.2]; rfl, hkp⟩

end Go.Proofs.YtphdojebdclonaaDoor
