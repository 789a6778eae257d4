/- Joined texts. No condition. -/
import Derived.Deep.RegionHeld3
import Derived.Test.YtphdojebdclonaaDoorQ44
import Derived.Test.YtphdojebdclonaaDoorQ8
import Derived.Test.YtphdojebdclonaaDoorQ15
import Derived.Test.YtphdojebdclonaaDoorQ12
import Derived.Test.YtphdojebdclonaaDoorQ9
/- Arguments opened: a slice of bytes. No condition. -/
namespace Go.Proofs.YtphdojebdclonaaDoor
set_option linter.unusedSimpArgs false
set_option linter.unusedVariables false
open Go.ChangeShapes Go.WideShapes Go.ChangeAt Go.RowKit Go.Joins Go.Deep

section
variable {H : Type} {enc : TypeId × Value → H} {w : World} {base : Nat} {spare : Nat → Bool} {held : Bool}
set_option maxRecDepth 100000 in
theorem open_bytesV {v : Value} {d : DataW H} {p : List MemPlace} {r : Reach} {b0 : Nat} (hv : Value.okWide Tryd.prog w r b0 22 v) (h : DataW.Trod enc Tryd.prog w base spare held 22 v d p) :
    ∃ A n c, v = .slice A n c ∧ (BytesV w A n ∧ n ≤ c ∧ c ≤ maxLen) := by
  obtain ⟨a1, len1, cap1, rfl⟩ := okWide_slice Tryd.underlying22 hv
  obtain ⟨fuel, hf⟩ := h
  rcases open_ints Tryd.underlying22 Tryd.underlying5 (by kernel_rfl) hf with ⟨hcs, _⟩ | ⟨a, len, cap, zs, hcs, _, hl, hm, hz, _, hcell, hwz⟩
  · simp [Value.cells] at hcs
    obtain ⟨rfl, rfl, rfl⟩ := hcs
    exact ⟨none, 0, 0, rfl, ⟨by unfold maxLen; omega, fun h => absurd h (Nat.lt_irrefl 0)⟩, Nat.le_refl _, by unfold maxLen; omega⟩
  · simp [Value.cells] at hcs
    obtain ⟨rfl, rfl, rfl⟩ := hcs
    have hlen : len1 ≤ zs.length := by rw [hz]; split <;> omega
    refine ⟨some a, len1, cap1, rfl, ⟨by omega, fun h0 => ?_⟩, hl, hm⟩
    obtain ⟨b, off, rfl, hb⟩ := addr_form (hcell 0 (by omega))
    refine ⟨b, off, rfl, hb, fun k hk => ?_⟩
    have hc := hcell k (by omega)
    rw [add_none] at hc
    have hmem : zs.getD k 0 ∈ zs := by
      have hk' : k < zs.length := by omega
      simp [List.getD, hk']
    have hw := hwz _ hmem
    refine ⟨_, hc, ?_⟩
    generalize zs.getD k 0 = z at hw
    have hb := bounds_u8 hw
    omega
end

end Go.Proofs.YtphdojebdclonaaDoor
/- The law FnOnlyTurns, walked. No condition. -/
namespace Go.Proofs.YtphdojebdclonaaDoor
set_option linter.unusedSimpArgs false
set_option linter.unusedVariables false
open Go.RowKit
























theorem turn_bit (d : Sp.Deed) (h : Sp.turnOk d = true) {s : Nat} (hs : s < 32) : Sp.run d.need s = true := by
  unfold Sp.turnOk at h
  simp only [Bool.and_eq_true, beq_iff_eq] at h
  have h1 : (Sp.truth d.need).testBit s = true := by
    rw [h.2]
    have : ∀ s : Fin 32, Nat.testBit 4294967295 s.val = true := by decide
    exact this ⟨s, hs⟩
  unfold Sp.truth at h1
  rw [Sp.testBit_setOf, Bool.and_eq_true] at h1
  exact h1.2
theorem turn_step {d : Sp.Deed} (h : Sp.turnOk d = true) {s : Nat} (hs : s < 32) : Sp.stepI d s = ((s ^^^ d.flip.toNat : Nat) : Int) := by
  have h2 := h
  unfold Sp.turnOk at h2
  simp only [Bool.and_eq_true, beq_iff_eq] at h2
  unfold Sp.stepI Sp.behind
  rw [if_pos (turn_bit d h hs), h2.1.1, h2.1.2]
  have h31 : ∀ s : Fin 32, (s.val ||| (0 : Int).toNat) &&& (31 ^^^ (0 : Int).toNat) = s.val := by decide
  have := h31 ⟨s, hs⟩
  simp only at this
  rw [this]
theorem turn_twice {d : Sp.Deed} (hd : Sp.deedOk d = true) (h : Sp.turnOk d = true) {s : Nat} (hs : s < 32) : ∃ u : Nat, u < 32 ∧ Sp.stepI d s = (u : Int) ∧ Sp.stepI d u = (s : Int) := by
  have hf := deedOk_flip hd
  have hu : s ^^^ d.flip.toNat < 32 := Nat.xor_lt_two_pow (n := 5) hs (by omega)
  refine ⟨_, hu, turn_step h hs, ?_⟩
  rw [turn_step h hu, Nat.xor_assoc, Nat.xor_self, Nat.xor_zero]
theorem only_deed {t : Sp.Task} (h : Sp.onlyTurns t = true) {k : Nat} (hk : k < t.deeds.length) : Sp.deedOk (t.deeds.getD k default) = true ∧ Sp.turnOk (t.deeds.getD k default) = true := by
  unfold Sp.onlyTurns at h
  rw [Bool.and_eq_true] at h
  refine ⟨Sp.taskOk_deed h.1 hk, ?_⟩
  have := List.all_eq_true.1 h.2 (t.deeds.getD k default) (by simp [List.getD, hk])
  exact this
theorem only_tail {st : Int} {g : List Int} {d : Sp.Deed} {ds : List Sp.Deed} (h : Sp.onlyTurns ⟨st, g, d :: ds⟩ = true) : Sp.onlyTurns ⟨st, g, ds⟩ = true := by
  unfold Sp.onlyTurns Sp.taskOk at *
  simp only [Bool.and_eq_true, List.all_cons, List.length_cons, decide_eq_true_eq] at *
  exact ⟨⟨⟨h.1.1.1, by omega⟩, h.1.2.2⟩, h.2.2⟩

/-- a task without its first deed -/
theorem task_tail {w : World} {A1 : Option Addr} {m1 c1 b off n' c' : Nat} {t : Sp.Task} (h : TaskV w (.agg #[.int .i64 t.start, .slice A1 m1 c1, .slice (some ⟨b, off, none⟩) n' c']) t) (hok : Sp.onlyTurns t = true) (hn : 0 < n') (hc : n' ≤ c') :
    ∃ t2, TaskV w (.agg #[.int .i64 t.start, .slice A1 m1 c1, .slice (if c' = 1 then some ⟨b, off, none⟩ else some ⟨b, off + 4, none⟩) (n' - 1) (c' - 1)]) t2 ∧ Sp.onlyTurns t2 = true := by
  have hG := h.goal
  have hD := h.deeds
  have hst : Sp.inI t.start := by obtain ⟨_, _, _, _, _, _, _, _, _, hi⟩ := h; exact hi
  obtain ⟨st, g, ds⟩ := t
  cases ds with
  | nil => have := hD.len; simp at this; omega
  | cons d ds =>
    have hl : ds.length + 1 = n' := hD.len
    refine ⟨⟨st, g, ds⟩, ⟨A1, m1, c1, _, n' - 1, c' - 1, rfl, hG, ⟨by show ds.length = _; omega, by have := hD.le; unfold maxLen; omega, fun h0 => ?_⟩, hst⟩, only_tail hok⟩
    obtain ⟨b2, off2, e, hb, hcell⟩ := hD.2.2 hn
    simp only [Option.some.injEq, Addr.mk.injEq] at e
    obtain ⟨rfl, rfl, _⟩ := e
    refine ⟨b, off + 4, by rw [if_neg (by omega)], hb, fun k hk => ?_⟩
    have := hcell (k + 1) (by omega)
    rw [show off + 4 + k * 4 = off + (k + 1) * 4 by omega]
    simpa using this





















































































































































end Go.Proofs.YtphdojebdclonaaDoor
