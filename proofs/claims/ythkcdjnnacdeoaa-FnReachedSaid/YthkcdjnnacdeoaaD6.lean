/- Draws: one cell of a deed in a row is written. No condition. -/
import Derived.Test.YthkcdjnnacdeoaaD5
namespace Go.Proofs.Ythkcdjnnacdeoaa
open Go.RowKit

theorem own_blk {X n c g sz : Nat} {T : TypeId} {w : World} {xs : List Value} (ho : w.ownsRow X T sz (.slice (some ⟨g, 0, none⟩) n c) n xs) : ∃ cur, Blk w g T cur := by
  rcases ho.2 with ⟨e, _⟩ | ⟨g', cap, cur, e, _, hh, _⟩
  · cases e
  · simp only [Value.slice.injEq, Option.some.injEq, Addr.mk.injEq] at e
    obtain ⟨⟨rfl, _⟩, _⟩ := e
    exact ⟨cur, hh⟩

/-- one cell of deed j: what it is is said by V, of the four cells as they are then -/
theorem DRow.cell {X n c j g i : Nat} {w w' : World} {u : Value} (hD : DRow X w (some ⟨g, 0, none⟩) n c) (hj : j < n) (hi : i < 4)
    (hw : IntsKept X (w.setCell ⟨g, j * 4 + i, none⟩ u) w' ∧ ∀ (n : Nat) (xs : List Value), (w.setCell ⟨g, j * 4 + i, none⟩ u).ownsRow X 39 4 (.slice (some ⟨g, 0, none⟩) n c) n xs → w'.ownsRow X 39 4 (.slice (some ⟨g, 0, none⟩) n c) n xs)
    (hV : ∀ v0 v1 v2 v3, DVals X w' v0 v1 v2 v3 → DVals X w' (if i = 0 then u else v0) (if i = 1 then u else v1) (if i = 2 then u else v2) (if i = 3 then u else v3)) :
    DRow X w' (some ⟨g, 0, none⟩) n c ∧ IntsKept X w w' := by
  obtain ⟨xs, ho, hv⟩ := hD
  obtain ⟨cur, hB⟩ := own_blk ho
  have hl : xs.length = n * 4 := ho.1
  have hI : IntsKept X w w' := fun sz v m ys h => hw.1 sz v m ys (own_farT (by decide) hB h _ u)
  refine ⟨⟨_, hw.2 _ _ (ho.stored (j * 4 + i) u).1, fun k hk => ?_⟩, hI⟩
  obtain ⟨u0, u1, u2, u3, h0, h1, h2, h3, h4⟩ := hv k hk
  by_cases e : k = j
  · subst e
    refine ⟨_, _, _, _, ?_, ?_, ?_, ?_, hV u0 u1 u2 u3 (h4.kept hI)⟩
    · rw [List.getElem?_set]
      by_cases e0 : i = 0
      · subst e0; simp; omega
      · rw [if_neg (by omega), if_neg e0]; exact h0
    · rw [List.getElem?_set]
      by_cases e0 : i = 1
      · subst e0; simp; omega
      · rw [if_neg (by omega), if_neg e0]; exact h1
    · rw [List.getElem?_set]
      by_cases e0 : i = 2
      · subst e0; simp; omega
      · rw [if_neg (by omega), if_neg e0]; exact h2
    · rw [List.getElem?_set]
      by_cases e0 : i = 3
      · subst e0; simp; omega
      · rw [if_neg (by omega), if_neg e0]; exact h3
  · refine ⟨u0, u1, u2, u3, ?_, ?_, ?_, ?_, h4.kept hI⟩
    · rw [List.getElem?_set_ne (by omega)]; exact h0
    · rw [List.getElem?_set_ne (by omega)]; exact h1
    · rw [List.getElem?_set_ne (by omega)]; exact h2
    · rw [List.getElem?_set_ne (by omega)]; exact h3

theorem set_same {xs : List Value} {i : Nat} {v : Value} (h : xs[i]? = some v) : xs.set i v = xs := by
  apply List.ext_getElem?
  intro k
  rw [List.getElem?_set]
  by_cases e : i = k
  · subst e
    rw [if_pos rfl, h]
    have := (List.getElem?_eq_some_iff.1 h).1
    rw [if_pos this]
  · rw [if_neg e]
/-- three cells of deed j are written, the fourth stands -/
theorem own_put3 {X n c g : Nat} {w : World} {xs : List Value} {v3 : Value} (ho : w.ownsRow X 39 4 (.slice (some ⟨g, 0, none⟩) n c) n xs) (i : Nat) (v0 v1 v2 : Value) (h3 : xs[i + 3]? = some v3) :
    (((w.setCell ⟨g, i, none⟩ v0).setCell ⟨g, i + 1, none⟩ v1).setCell ⟨g, i + 2, none⟩ v2).ownsRow X 39 4 (.slice (some ⟨g, 0, none⟩) n c) n ((((xs.set i v0).set (i + 1) v1).set (i + 2) v2).set (i + 3) v3) ∧
      IntsKept X w (((w.setCell ⟨g, i, none⟩ v0).setCell ⟨g, i + 1, none⟩ v1).setCell ⟨g, i + 2, none⟩ v2) := by
  obtain ⟨cur, hB⟩ := own_blk ho
  refine ⟨?_, fun sz v m ys h => own_farT (by decide) ((hB.set_ _ v0).set_ _ v1) (own_farT (by decide) (hB.set_ _ v0) (own_farT (by decide) hB h _ v0) _ v1) _ v2⟩
  rw [set_same (by rw [List.getElem?_set_ne (by omega), List.getElem?_set_ne (by omega), List.getElem?_set_ne (by omega)]; exact h3)]
  exact (((ho.stored i v0).1.stored (i + 1) v1).1.stored (i + 2) v2).1

end Go.Proofs.Ythkcdjnnacdeoaa
