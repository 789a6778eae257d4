/- Draws: a deed is changed in its row. No condition. -/
import Derived.Test.YthkcdjnnacdeoaaD4a
namespace Go.Proofs.Ythkcdjnnacdeoaa
open Go.RowKit

theorem inI_wrap64 (x : Int) : Sp.inI (wrap64 x) := by unfold Sp.inI wrap64; omega
/-- four cells of a row of deeds of one's own are written -/
theorem own_put {X n c g : Nat} {w : World} {xs : List Value} (ho : w.ownsRow X 39 4 (.slice (some ⟨g, 0, none⟩) n c) n xs) (i : Nat) (v0 v1 v2 v3 : Value) :
    ((((w.setCell ⟨g, i, none⟩ v0).setCell ⟨g, i + 1, none⟩ v1).setCell ⟨g, i + 2, none⟩ v2).setCell ⟨g, i + 3, none⟩ v3).ownsRow X 39 4 (.slice (some ⟨g, 0, none⟩) n c) n ((((xs.set i v0).set (i + 1) v1).set (i + 2) v2).set (i + 3) v3) ∧
      IntsKept X w ((((w.setCell ⟨g, i, none⟩ v0).setCell ⟨g, i + 1, none⟩ v1).setCell ⟨g, i + 2, none⟩ v2).setCell ⟨g, i + 3, none⟩ v3) := by
  obtain ⟨cur, hB⟩ : ∃ cur, Blk w g 39 cur := by
    rcases ho.2 with ⟨e, _⟩ | ⟨g', cap, cur, e, _, hh, _⟩
    · cases e
    · simp only [Value.slice.injEq, Option.some.injEq, Addr.mk.injEq] at e
      obtain ⟨⟨rfl, _⟩, _⟩ := e
      exact ⟨cur, hh⟩
  exact ⟨((((ho.stored i v0).1.stored (i + 1) v1).1.stored (i + 2) v2).1.stored (i + 3) v3).1, fun sz v m ys h =>
    own_farT (by decide) (((hB.set_ _ v0).set_ _ v1).set_ _ v2) (own_farT (by decide) ((hB.set_ _ v0).set_ _ v1) (own_farT (by decide) (hB.set_ _ v0) (own_farT (by decide) hB h _ v0) _ v1) _ v2) _ v3⟩

theorem DRow.put {X n c j g : Nat} {w w' : World} {xs : List Value} {v0 v1 v2 v3 : Value} (hl : xs.length = n * 4)
    (hv : ∀ k, k < n → ∃ v0 v1 v2 v3, xs[k * 4]? = some v0 ∧ xs[k * 4 + 1]? = some v1 ∧ xs[k * 4 + 2]? = some v2 ∧ xs[k * 4 + 3]? = some v3 ∧ DVals X w v0 v1 v2 v3) (hj : j < n) (hI : IntsKept X w w')
    (ho : w'.ownsRow X 39 4 (.slice (some ⟨g, 0, none⟩) n c) n ((((xs.set (j * 4) v0).set (j * 4 + 1) v1).set (j * 4 + 2) v2).set (j * 4 + 3) v3)) (hd : DVals X w' v0 v1 v2 v3) : DRow X w' (some ⟨g, 0, none⟩) n c := by
  refine ⟨_, ho, fun k hk => ?_⟩
  simp only [List.getElem?_set, List.length_set, hl]
  by_cases e : k = j
  · subst e
    exact ⟨v0, v1, v2, v3, by simp; omega, by simp; omega, by simp; omega, by simp; omega, hd⟩
  · obtain ⟨u0, u1, u2, u3, h0, h1, h2, h3, h4⟩ := hv k hk
    refine ⟨u0, u1, u2, u3, ?_, ?_, ?_, ?_, h4.kept hI⟩
    · rw [if_neg (by omega), if_neg (by omega), if_neg (by omega), if_neg (by omega)]; exact h0
    · rw [if_neg (by omega), if_neg (by omega), if_neg (by omega), if_neg (by omega)]; exact h1
    · rw [if_neg (by omega), if_neg (by omega), if_neg (by omega), if_neg (by omega)]; exact h2
    · rw [if_neg (by omega), if_neg (by omega), if_neg (by omega), if_neg (by omega)]; exact h3

end Go.Proofs.Ythkcdjnnacdeoaa
