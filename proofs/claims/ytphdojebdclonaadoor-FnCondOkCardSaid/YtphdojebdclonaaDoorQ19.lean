/- Joined texts. No condition. -/
import Derived.Test.YtphdojebdclonaaDoorQ15
import Derived.Test.YtphdojebdclonaaDoorQ18
/- Walks: the draw of a task and a set of states (FnClosedOk). No condition. -/
namespace Go.Proofs.YtphdojebdclonaaDoor
set_option linter.unusedSimpArgs false
set_option linter.unusedVariables false
open Go.RowKit

theorem own_ints {w : World} {X : Nat} {A : Option Addr} {n c : Nat} {l : List Int} (hn : n ≤ 64) (ho : w.ownsRow X 3 1 (.slice A n c) n (l.map (Value.int .i64))) (hi : ∀ x ∈ l, Sp.inI x) : Ints w A n l := by
  have hl : l.length = n := by have := ho.1; simpa using this
  refine ⟨hl, by unfold maxLen; omega, hi, fun h0 => ?_⟩
  obtain ⟨_, g, rfl, _, h3⟩ := own_row ho h0
  obtain ⟨h4, h5⟩ := h3
  exact ⟨g, 0, rfl, h5.1, fun k hk => by rw [Nat.zero_add]; exact h5.2.2 k hk⟩
/-- what the rows hold, wherever they are kept -/
theorem GRow.own2 {w : World} {X : Nat} {A : Option Addr} {n c : Nat} (h : GRow X w A n c) : ∃ l, ∀ w', IntsKept X w w' → Ints w' A n l := by
  obtain ⟨l, hn, ho, hi⟩ := h
  exact ⟨l, fun w' hk => own_ints hn (hk _ _ _ _ ho) hi⟩
theorem DRow.deeds2 {w : World} {X : Nat} {A : Option Addr} {n c : Nat} (h : DRow X w A n c) (hn : n ≤ 64) : ∃ ds, ∀ w', RowsKept X w w' → Deeds w' A n ds := by
  obtain ⟨xs, ho, hv⟩ := h
  by_cases h0 : 0 < n
  · obtain ⟨_, g, rfl, hg, hgl, _, _⟩ := own_some ho h0
    have hlt : ∀ w', RowsKept X w w' → g < w'.heap.size := fun w' hk => by
      obtain ⟨_, g', e', _, hgl', _, _⟩ := own_some (hk _ _ _ _ _ (.inr rfl) ho) h0
      simp only [Option.some.injEq, Addr.mk.injEq] at e'
      omega
    have hc : ∀ w', RowsKept X w w' → ∀ j u, xs[j]? = some u → w'.cell? ⟨g, j, none⟩ = some u := fun w' hk j u hu => by
      have ho' := hk _ _ _ _ _ (.inr rfl) ho
      rw [ho'.cellAt j (by have := ho'.1; have := (List.getElem?_eq_some_iff.1 hu).1; omega)]
      exact hu
    have hd : ∀ k, ∃ d : Sp.Deed, k < n → ∀ w', RowsKept X w w' → DeedCells w' g (0 + k * 4) d := fun k => by
      by_cases hk : k < n
      · obtain ⟨v0, v1, v2, v3, h0, h1, h2, h3, A, m, c, l, on, off, flip, rfl, rfl, rfl, rfl, hm, hr, hi, i1, i2, i3⟩ := hv k hk
        refine ⟨⟨l, on, off, flip⟩, fun _ w' hkw => ?_⟩
        rw [Nat.zero_add]
        exact ⟨A, m, c, hc w' hkw _ _ h0, own_ints hm (hkw.ints _ _ _ _ hr) hi, hc w' hkw _ _ h1, hc w' hkw _ _ h2, hc w' hkw _ _ h3, i1, i2, i3⟩
      · exact ⟨default, fun h => absurd h hk⟩
    refine ⟨(List.range n).map (fun k => (hd k).choose), fun w' hkw => ⟨by simp, by unfold maxLen; omega, fun _ => ⟨g, 0, rfl, hlt w' hkw, fun k hk => ?_⟩⟩⟩
    have := (hd k).choose_spec hk w' hkw
    simpa [hk] using this
  · exact ⟨[], fun w' _ => ⟨by simp; omega, by unfold maxLen; omega, fun h => absurd h h0⟩⟩
theorem TaskQ.task2 {X : Nat} {v : Value} {w : World} (h : TaskQ X v w) : ∃ t, t.deeds.length ≤ 8 ∧ ∀ w', RowsKept X w w' → TaskV w' v t := by
  obtain ⟨st, A, n, c, A', n', c', rfl, hi, hG, hD, hn⟩ := h
  obtain ⟨l, hI⟩ := hG.own2
  obtain ⟨ds, hDs⟩ := hD.deeds2 (by omega)
  exact ⟨⟨st, l, ds⟩, by rw [(hDs w (RowsKept.of_kept (Kept.refl w))).len]; exact hn, fun w' hk => ⟨A, n, c, A', n', c', rfl, hI w' hk.ints, hDs w' hk, hi⟩⟩

theorem reached_bd (t : Sp.Task) (h : Sp.taskOk t = true) : ∃ S : Nat, Sp.reached t = (S : Int) ∧ S < 4294967296 := by
  refine ⟨Sp.reachedN t, ?_, reachedN_lt h⟩
  unfold Sp.reached
  rw [if_pos h]


















































































































































































































































end Go.Proofs.YtphdojebdclonaaDoor
