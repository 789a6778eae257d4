/- Arguments opened: a slice of bytes. No condition. -/
import Derived.Test.YtphdojebdclonaaDoorRow
import Derived.Test.YtphdojebdclonaaDoorD2
namespace Go.Proofs.YtphdojebdclonaaDoor
set_option linter.unusedSimpArgs false
set_option linter.unusedVariables false
open Go.ChangeShapes Go.WideShapes Go.ChangeAt Go.RowKit Go.Joins Go.Deep

section
variable {H : Type} {enc : TypeId × Value → H} {w : World} {base : Nat} {spare : Nat → Bool} {held : Bool}
set_option maxRecDepth 100000 in
theorem open_bytesV {v : Value} {d : DataW H} {p : List MemPlace} {r : Reach} {b0 : Nat} (hv : Value.okWide Tryd.prog w r b0 22 v) (h : DataW.Trod enc Tryd.prog w base spare held 22 v d p) :
    ∃ A n c, v = .slice A n c ∧ (BytesV w A n ∧ n ≤ c ∧ c ≤ maxLen) := by
  obtain ⟨a1, len1, cap1, rfl⟩ := okWide_slice Tryd.underlying22 hv
  obtain ⟨fuel, hf⟩ := h
  rcases open_ints Tryd.underlying22 Tryd.underlying5 (by kernel_rfl) hf with ⟨hcs, _⟩ | ⟨a, len, cap, zs, hcs, _, hl, hm, hz, _, hcell, hwz⟩
  · simp [Value.cells] at hcs
    obtain ⟨rfl, rfl, rfl⟩ := hcs
    exact ⟨none, 0, 0, rfl, ⟨by unfold maxLen; omega, fun h => absurd h (Nat.lt_irrefl 0)⟩, Nat.le_refl _, by unfold maxLen; omega⟩
  · simp [Value.cells] at hcs
    obtain ⟨rfl, rfl, rfl⟩ := hcs
    have hlen : len1 ≤ zs.length := by rw [hz]; split <;> omega
    refine ⟨some a, len1, cap1, rfl, ⟨by omega, fun h0 => ?_⟩, hl, hm⟩
    obtain ⟨b, off, rfl, hb⟩ := addr_form (hcell 0 (by omega))
    refine ⟨b, off, rfl, hb, fun k hk => ?_⟩
    have hc := hcell k (by omega)
    rw [add_none] at hc
    have hmem : zs.getD k 0 ∈ zs := by
      have hk' : k < zs.length := by omega
      simp [List.getD, hk']
    have hw := hwz _ hmem
    refine ⟨_, hc, ?_⟩
    generalize zs.getD k 0 = z at hw
    have hb := bounds_u8 hw
    omega
end

end Go.Proofs.YtphdojebdclonaaDoor
